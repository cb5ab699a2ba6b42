/- Contract of outref2.componentError. -/
import Derived.Test.YtmpccllnpcbgcaaGreatDoorPk36
import Derived.Test.YtmpccllnpcbgcaaGreatDoorPk33
import Derived.Test.YtmpccllnpcbgcaaGreatDoorPk34
namespace Go.Proofs.YtmpccllnpcbgcaaGreatDoor
open Go.RowKit
theorem cpErr_f2 (bef:List Cmp) (p:Cmp):cpErr bef p=f2 (f2 (f2 (firstI [(if nameL (bs p.name)=true then 0 else 5),(if bef.any (fun d=>decide (d.name=p.name))=true then 6 else 0),(if valueL (bs p.title)=true then 0 else 2),checkC p.wh]) (cnErr p)) (citErr p)) (cstErr p):=by
 unfold cpErr
 simp only[firstI_f2,firstI_nil,f2_zero,f2_assoc]
set_option maxHeartbeats 4000000 in
set_option maxRecDepth 100000 in
theorem cErrC_any (q:Cmp) (k:Int) (n x:ByteArray) (A2:Option Addr) (m c2:Nat) (A3:Option Addr) (c3:Nat) (A4:Option Addr) (c4:Nat) (A5:Option Addr) (c5:Nat) (g:Nat) (nm:ByteArray) (w:World) (hc:w.cell? ⟨g,0,none⟩=some (.string nm)) :
 Calls Tryz.prog 195 (#[cmV q k n x A2 m c2 A3 c3 A4 c4 A5 c5]++#[.pointer (some ⟨g,0,none⟩)]) w fun e w'=>e=.returned (.bool (decide (q.name=nm)))∧Ext w w':=by
 have hq:=dec_toL q.name nm
 generalize decide (q.name=nm)=D at *
 obtain⟨qn,qt,qd,qa,qw,qe,qi,qs⟩:=q
 dsimp only[cmV] at *
 generalize qe.length=l3 at *
 generalize qi.length=l4 at *
 generalize qs.length=l5 at *
 have hg:=lt_of_cell hc
 go_enter Tryz.func195,Tryz.ntmps195
 go_wp2
 go_ret
 exact⟨rfl,(Ext.refl w).alloc _⟩
set_option maxHeartbeats 32000000 in
set_option maxRecDepth 100000 in
theorem componentError_any (p:Pkg) (A:Option Addr) (c:Nat) (A2:Option Addr) (c2:Nat) (A3:Option Addr) (c3:Nat) (A4:Option Addr) (c4:Nat) (k:Nat) (w:World) (hg:GoodN w) (hr:RdC w A3 p.comps) (hk:k < p.comps.length) (hcap:p.comps.length<=c3) (hl:p.comps.length<=2097152) (hs:SmallCm p.comps[k]) :
 Calls Tryz.prog 113 #[pkV p A c A2 c2 A3 c3 A4 c4,.int .i64 (k:Int)] w fun e w'=>e=.returned (.int .i64 (cpErr (p.comps.take k) p.comps[k]))∧Ext w w':=by
 obtain⟨b,o,rfl,hX⟩:=hr (fun e=>by rw[e] at hk;exact absurd hk (Nat.not_lt_zero _))
 obtain⟨k0,n0,x0,A5,m5,c5,A6,c6,A7,c7,A8,c8,hrow⟩:=hX k hk
 have CN:=Hy (fun W=>NameOf_any p.comps[k].name W hs.name)
 have CV:=Hy (fun W=>ValueOf_any p.comps[k].title W hs.title)
 have CC:=Hy (fun W (h:Ext w W)=>CondError_any p.comps[k].wh _ AnyB W (hg.ext h) (hrow.has.wh.ext h) hs.wh hs.cnt)
 have CB:=Hy (fun W g (h:Ext w W) (hc:W.cell? ⟨g,0,none⟩=some (.string p.comps[k].name))=>ContainsCm_any 195 (fun _ _=>rfl) (p.comps.take k) (some ⟨b,o,none⟩) k c3 g p.comps[k].name W (by rw[List.length_take];omega) ((hr.ext h).take k) (by omega) hc (fun q kk n x A2 m c2 A3 c3 A4 c4 A5 c5 W' hW'=>cErrC_any q kk n x A2 m c2 A3 c3 A4 c4 A5 c5 g p.comps[k].name W' (hW'.cell hc)))
 have HE:=Hy (cpErr_f2 (p.comps.take k) p.comps[k])
 have LD:=load_Cm hrow
 have HD:=Hy (fun W (h:Ext w W)=>load_Cm (hrow.ext h))
 have HIN:=Hy hrow.has.needs
 have HII:=Hy hrow.has.items
 have HIS:=Hy hrow.has.steps
 have hcp:=hrow.has.cap
 have HG:=Hy hg
 have HS:=Hy hs
 obtain⟨E,hE⟩:∃ E,E=cpErr (p.comps.take k) p.comps[k]:=⟨_,rfl⟩
 rw[<-hE] at HE ⊢
 have HCN:=Hy (show cnErr p.comps[k]=firstN p.comps[k].needs.length (cnAt p.comps[k].name p.comps[k].needs) from rfl)
 have HCI:=Hy (show citErr p.comps[k]=firstN p.comps[k].items.length (fun i=>itErr (p.comps[k].items.getD i zeroI)) from rfl)
 have HCS:=Hy (show cstErr p.comps[k]=firstN p.comps[k].steps.length (fun i=>stoErr (p.comps[k].steps.getD i ⟨0,⟨#[]⟩,⟨#[]⟩⟩)) from rfl)
 clear hr hX hrow hg hs hE
 generalize (p.comps.take k).any (fun d=>decide (d.name=p.comps[k].name))=AN at *
 generalize cnErr p.comps[k]=EN at *
 generalize citErr p.comps[k]=EI at *
 generalize cstErr p.comps[k]=ES at *
 generalize checkC p.comps[k].wh=EC at *
 generalize p.comps[k]=q at *
 obtain⟨qn,qt,qd,qa,qw,qe,qi,qs⟩:=q
 obtain⟨pn,⟨v1,v2,v3,va⟩,pt,pe,pb,l,pm⟩:=p
 dsimp only[pkV,cmV] at *
 generalize pe.length=l1 at *
 generalize pb.length=l2 at *
 generalize pm.length=l4 at *
 generalize l.length=n at *
 have hl6:=HS.out.nlen
 have hl7:=HS.out.ilen
 have hl8:=HS.out.slen
 dsimp only at hl6 hl7 hl8
 generalize h6:qe.length=l6 at *
 generalize h7:qi.length=l7 at *
 generalize h8:qs.length=l8 at *
 have H6:=Hy h6
 have H7:=Hy h7
 have H8:=Hy h8
 clear h6 h7 h8
 generalize nameL (bs qn)=Q1 at *
 generalize valueL (bs qt)=Q2 at *
 have CW1:=Hy (fun W=>When_any (!Q1) 5 W)
 have CW2:=Hy (fun W=>When_any AN 6 W)
 have CW3:=Hy (fun W=>When_any (!Q2) 2 W)
 have HE:=Hy (show E=f2 (f2 (f2 (firstI [(if (!Q1)=true then 5 else 0),(if AN=true then 6 else 0),(if (!Q2)=true then 2 else 0),EC]) EN) EI) ES from by rw[HE.out];cases Q1<;>cases Q2<;>rfl)
 obtain⟨X1,hX1⟩:∃ X,(if (!Q1)=true then (5:Int) else 0)=X:=⟨_,rfl⟩
 obtain⟨X2,hX2⟩:∃ X,(if AN=true then (6:Int) else 0)=X:=⟨_,rfl⟩
 obtain⟨X3,hX3⟩:∃ X,(if (!Q2)=true then (2:Int) else 0)=X:=⟨_,rfl⟩
 rw[hX1,hX2,hX3] at HE
 rw[hX1] at CW1
 rw[hX2] at CW2
 rw[hX3] at CW3
 clear hX1 hX2 hX3
 have b0:=Blk.new w 76 #[.string pn,.int .i64 v1,.int .i64 v2,.int .i64 v3,.string va,.string pt,.slice A l1 c,.slice A2 l2 c2,.slice (some ⟨b,o,none⟩) n c3,.slice A4 l4 c4]
 have hx0:Ext w (w.alloc (.cells #[.string pn,.int .i64 v1,.int .i64 v2,.int .i64 v3,.string va,.string pt,.slice A l1 c,.slice A2 l2 c2,.slice (some ⟨b,o,none⟩) n c3,.slice A4 l4 c4] 76)):=(Ext.refl w).alloc _
 generalize hW0:w.alloc (.cells #[.string pn,.int .i64 v1,.int .i64 v2,.int .i64 v3,.string va,.string pt,.slice A l1 c,.slice A2 l2 c2,.slice (some ⟨b,o,none⟩) n c3,.slice A4 l4 c4] 76)=W0 at *
 have hs0:W0.heap.size=w.heap.size+1:=by rw[<-hW0,World.size_alloc]
 have LD0:=HD.out _ hx0
 have b1:=Blk.new W0 82 #[.string qn,.string qt,.bool qd,.bool qa,.int .i64 k0,.string n0,.string x0,.slice A5 m5 c5,.slice A6 l6 c6,.slice A7 l7 c7,.slice A8 l8 c8]
 have hx1:Ext W0 (W0.alloc (.cells #[.string qn,.string qt,.bool qd,.bool qa,.int .i64 k0,.string n0,.string x0,.slice A5 m5 c5,.slice A6 l6 c6,.slice A7 l7 c7,.slice A8 l8 c8] 82)):=(Ext.refl W0).alloc _
 have b0a:=b0.ext hx1
 generalize hW1:W0.alloc (.cells #[.string qn,.string qt,.bool qd,.bool qa,.int .i64 k0,.string n0,.string x0,.slice A5 m5 c5,.slice A6 l6 c6,.slice A7 l7 c7,.slice A8 l8 c8] 82)=W1 at *
 rw[hs0] at b1
 have hx01:=hx0.trans hx1
 have HW0:=Hy hW0
 have HW1:=Hy hW1
 clear hW0 hW1 LD
 have e0:=b0a.cell;have l0:=b0a.lt;have e1:=b1.cell;have l1':=b1.lt
 have eP:=b0.cell
 have CB1:=Hy (fun W (h:Ext W1 W)=>CB.out W (w.heap.size+1) (hx01.trans h) (h.cell (b1.cell 0)))
 have hkc:k<=c3:=by omega
 go_enter Tryz.func113,Tryz.ntmps113
 go_wp2_with (first|(rw[HW0.out])|(refine wpList_load_at rfl _ _ rfl _ rfl _ LD0 ?_))
 rw[HW1.out]
 clear LD0 eP
 refine wp_region_ext_tail 20 (by kernel_rfl) (by kernel_rfl) ?_
 simp only[List.take_succ_cons,List.take_zero,List.drop_succ_cons,List.drop_zero]
 repeat (first|go_big_quiet_skip|(refine wpQuiet_step (fun K hK=>?_);go_simp;first|(refine hK _ ?_;clear hK K)|(apply Exists.intro;refine⟨fun wq hwq=>?_,hK _ ?_⟩;(obtain⟨hqc,hqf⟩:=hwq.cells;have hqs:=hwq.size;(try go_simp);first|rfl|((first|rw[if_neg (by omega)]|rw[if_pos (by omega)]);(try go_simp);rfl)|(((first|(go_at_call 19;exact (CN.out _).mono (fun e w'' h=>⟨h.1,hwq.trans h.2⟩))|(go_at_call 23;exact (CV.out _).mono (fun e w'' h=>⟨h.1,h.2 ▸ hwq⟩))|(go_at_call 107;exact (CC.out _ (hx01.trans hwq)).mono (fun e w'' h=>⟨h.1,hwq.trans h.2⟩))|(go_at_call 128;exact (CB1.out _ hwq).mono (fun e w'' h=>⟨h.1,hwq.trans h.2⟩))|(go_at_call 46;exact (CW1.out _).mono (fun e w'' h=>⟨h.1,h.2 ▸ hwq⟩))|(go_at_call 46;exact (CW2.out _).mono (fun e w'' h=>⟨h.1,h.2 ▸ hwq⟩))|(go_at_call 46;exact (CW3.out _).mono (fun e w'' h=>⟨h.1,h.2 ▸ hwq⟩))))));clear hK K)))
 refine wpQuiet_nil ?_
 intro wN hxN
 obtain⟨hcN,hfN⟩:=hxN.cells
 have hsN:=hxN.size
 go_wp2_with fail
 refine (First_any _ _ [X1,X2,X3,EC] _ ?_ (by simp)).mono ?_
 ·intro kq hkq
  rw[World.cell?_alloc_at _ _ _ _ rfl]
  match kq,hkq with
  | 0,_=>rfl
  | 1,_=>rfl
  | 2,_=>rfl
  | 3,_=>rfl
 rintro e w' ⟨rfl,rfl⟩
 have hx2:Ext W1 (wN.alloc (.cells #[.int .i64 X1,.int .i64 X2,.int .i64 X3,.int .i64 EC] 24)):=hxN.alloc _
 generalize wN.alloc (.cells #[.int .i64 X1,.int .i64 X2,.int .i64 X3,.int .i64 EC] 24)=W2 at *
 generalize firstI [X1,X2,X3,EC]=B at *
 have hx02:=hx01.trans hx2
 have e2:=(b1.ext hx2).cell;have l2':=(b1.ext hx2).lt
 clear e0 l0 e1 l1' hxN hcN hfN hsN CB CB1 CW1 CW2 CW3 CN CV CC
 go_wp2
 go_loopw [6,43] (fun s i wr=>∃ (q:Nat) (ec:Int),q<=l6∧i=.int .i64 q∧s=.int .i64 ec∧Hid (ec=f2 B (firstN q (cnAt qn qe)))∧Ext W2 wr) (fun _ i _=>l6 - (intOf i).toNat)
 case atStart=>exact⟨0,B,Nat.zero_le _,rfl,rfl,Hy (by rw[show firstN 0 (cnAt qn qe)=0 from rfl,f2_zero]),Ext.refl _⟩
 case round =>
  obtain⟨q,ec,hq,rfl,rfl,HC,hxr⟩:=hrel
  obtain⟨wo,rfl⟩:∃ wo:World,wo=wr:=⟨_,rfl⟩
  have hxw:=hx02.trans hxr
  have b1r:=b1.ext (hx2.trans hxr)
  have e3:=b1r.cell;have l3':=b1r.lt
  clear e2 l2'
  by_cases hlt:q < l6
  ·have hk1:q < qe.length:=by rw[H6.out];exact hlt
   obtain⟨bn,on,rfl,hXn⟩:=(HIN.out.ext hxw) (fun e=>by rw[e] at hk1;exact absurd hk1 (Nat.not_lt_zero _))
   have hC:=hXn q hk1
   have CT:=Hy (fun W (h:Ext w W)=>ContainsX_any (some ⟨bn,on,none⟩) c6 q qe qe[q] W (HIN.out.ext h) (by rw[H6.out];exact hl6) (fun e=>by rw[e] at hk1;exact absurd hk1 (Nat.not_lt_zero _)) (by omega))
   have HSU:=Hy (firstN_succ q (cnAt qn qe))
   have HV:=Hy (show cnAt qn qe q=if qe[q]=qn then 13 else if memB qe[q] (qe.take q)=true then 6 else 0 from by
    unfold cnAt
    simp[List.getD,List.getElem?_eq_getElem hk1])
   have hq2:=dec_toL qe[q] qn
   have hqc:q<=c6:=by omega
   clear hXn
   generalize cnAt qn qe q=Z at *
   generalize memB qe[q] (qe.take q)=MB at *
   generalize qe[q]=y at *
   obtain⟨D2,hD2⟩:∃ D2,decide (y=qn)=D2:=⟨_,rfl⟩
   rw[hD2] at hq2
   have HV2:=Hy (show Z=firstI [(if D2=true then (13:Int) else 0),(if MB=true then 6 else 0)] from by rw[HV.out,<-hD2];simp only[decide_eq_true_eq];by_cases h:y=qn<;>cases MB<;>simp[h,firstI])
   clear hD2 HV
   have CW4:=Hy (fun W=>When_any D2 13 W)
   have CW5:=Hy (fun W=>When_any MB 6 W)
   obtain⟨Y1,hY1⟩:∃ X,(if D2=true then (13:Int) else 0)=X:=⟨_,rfl⟩
   obtain⟨Y2,hY2⟩:∃ X,(if MB=true then (6:Int) else 0)=X:=⟨_,rfl⟩
   rw[hY1,hY2] at HV2
   rw[hY1] at CW4
   rw[hY2] at CW5
   clear hY1 hY2
   have HNX:=Hy (show firstI [ec,Y1,Y2]=f2 B (firstN (q+1) (cnAt qn qe)) from by rw[firstI_f2,<-HV2.out,HC.out,HSU.out,f2_assoc])
   go_wp2
   refine wp_region_ext_tail 13 (by kernel_rfl) (by kernel_rfl) ?_
   simp only[List.take_succ_cons,List.take_zero,List.drop_succ_cons,List.drop_zero]
   repeat (first|go_big_quiet_skip|(refine wpQuiet_step (fun K hK=>?_);go_simp;first|(refine hK _ ?_;clear hK K)|(apply Exists.intro;refine⟨fun wq hwq=>?_,hK _ ?_⟩;(obtain⟨hqc,hqf⟩:=hwq.cells;have hqs:=hwq.size;(try go_simp);first|rfl|((first|rw[if_neg (by omega)]|rw[if_pos (by omega)]);(try go_simp);rfl)|(((first|(go_at_call 130;exact (CT.out _ (hxw.trans hwq)).mono (fun e w'' h=>⟨h.1,h.2 ▸ hwq⟩))|(go_at_call 46;exact (CW4.out _).mono (fun e w'' h=>⟨h.1,h.2 ▸ hwq⟩))|(go_at_call 46;exact (CW5.out _).mono (fun e w'' h=>⟨h.1,h.2 ▸ hwq⟩))))));clear hK K)))
   refine wpQuiet_nil ?_
   intro wN hxN
   obtain⟨hcN,hfN⟩:=hxN.cells
   have hsN:=hxN.size
   go_wp2_with fail
   refine (First_any _ _ [ec,Y1,Y2] _ ?_ (by simp)).mono ?_
   ·intro kq hkq
    rw[World.cell?_alloc_at _ _ _ _ rfl]
    match kq,hkq with
    | 0,_=>rfl
    | 1,_=>rfl
    | 2,_=>rfl
   rintro e w' ⟨rfl,rfl⟩
   clear e3 l3' hcN hfN hsN hq2 hC
   go_wp2
   go_roundw
   case rel=>exact⟨q+1,_,by omega,by go_num,rfl,HNX,(hxr.trans hxN).alloc _⟩
   case measure=>simp[intOf];omega
  ·obtain rfl:q=l6:=by omega
   have HC2:=Hy (show ec=f2 B EN from by rw[HC.out,HCN.out])
   clear HC
   go_wp2
   clear e3 l3'
   go_loopw [6,67] (fun s i wr=>∃ (j:Nat) (ec:Int),j<=l7∧i=.int .i64 j∧s=.int .i64 ec∧Hid (ec=f2 (f2 B EN) (firstN j (fun i=>itErr (qi.getD i zeroI))))∧Ext W2 wr) (fun _ i _=>l7 - (intOf i).toNat)
   case atStart=>exact⟨0,ec,Nat.zero_le _,rfl,rfl,Hy (by rw[show firstN 0 (fun i=>itErr (qi.getD i zeroI))=0 from rfl,f2_zero];exact HC2.out),hxr⟩
   case round =>
    clear b1r HC2 hxw hxr
    obtain⟨j,ec,hj,rfl,rfl,HC,hxr⟩:=hrel
    obtain⟨wo,rfl⟩:∃ wo:World,wo=wr:=⟨_,rfl⟩
    have hxw:=hx02.trans hxr
    have b1r:=b1.ext (hx2.trans hxr)
    have e3:=b1r.cell;have l3':=b1r.lt
    by_cases hlt:j < l7
    ·have hk1:j < qi.length:=by rw[H7.out];exact hlt
     obtain⟨bi,oi,rfl⟩:=RdI.at HII.out hk1
     have LD:=load_It (RdI.row (HII.out.ext hxw) hk1)
     have CI:=Hy (fun W (h:Ext w W)=>itemError_any qi[j] W (HG.out.toGood.ext h) (HS.out.items _ (List.getElem_mem hk1)))
     have HNX:=Hy (show firstI [ec,itErr qi[j]]=f2 (f2 B EN) (firstN (j+1) (fun i=>itErr (qi.getD i zeroI))) from by rw[firstN_succ,getD_it hk1,firstI_f2,firstI_f2,firstI,f2_zero,HC.out,f2_assoc])
     generalize itErr qi[j]=Z at *
     generalize qi[j]=y at *
     obtain⟨xk,xp,xd,xr,xe,xv,xs,xq,xa,xo⟩:=y
     dsimp only[itmV] at *
     have hxi:Ext wo (wo.alloc (.cells #[.int .i64 xk,.string xp,.string xd,.bool xr,.string xe,.string xv,.string xs,.string xq,.bool xa,.bool xo] 104)):=(Ext.refl wo).alloc _
     have b8:=Blk.new wo 104 #[.int .i64 xk,.string xp,.string xd,.bool xr,.string xe,.string xv,.string xs,.string xq,.bool xa,.bool xo]
     generalize hW8:wo.alloc (.cells #[.int .i64 xk,.string xp,.string xd,.bool xr,.string xe,.string xv,.string xs,.string xq,.bool xa,.bool xo] 104)=W8 at *
     have HW8:=Hy hW8
     clear hW8
     have e8:=b8.cell;have l8':=b8.lt
     go_wp2_with (refine wpList_load_at rfl _ _ rfl _ rfl _ LD ?_)
     rw[HW8.out]
     refine (CI.out _ (hxw.trans hxi)).mono ?_
     rintro e w9 ⟨rfl,hx9⟩
     clear e8 l8' e3 l3' LD
     go_wp2_with fail
     refine (First_any _ _ [ec,Z] _ ?_ (by simp)).mono ?_
     ·intro kq hkq
      rw[World.cell?_alloc_at _ _ _ _ rfl]
      match kq,hkq with
      | 0,_=>rfl
      | 1,_=>rfl
     rintro e w' ⟨rfl,rfl⟩
     go_wp2
     go_roundw
     case rel=>exact⟨j+1,_,by omega,by go_num,rfl,HNX,(hxr.trans (hxi.trans hx9)).alloc _⟩
     case measure=>simp[intOf];omega
    ·obtain rfl:j=l7:=by omega
     have HC2:=Hy (show ec=f2 (f2 B EN) EI from by rw[HC.out,HCI.out])
     clear HC
     go_wp2
     clear e3 l3'
     go_loopw [6,80] (fun s i wr=>∃ (t:Nat) (ec:Int),t<=l8∧i=.int .i64 t∧s=.int .i64 ec∧Hid (ec=f2 (f2 (f2 B EN) EI) (firstN t (fun i=>stoErr (qs.getD i ⟨0,⟨#[]⟩,⟨#[]⟩⟩))))∧Ext W2 wr) (fun _ i _=>l8 - (intOf i).toNat)
     case atStart=>exact⟨0,ec,Nat.zero_le _,rfl,rfl,Hy (by rw[show firstN 0 (fun i=>stoErr (qs.getD i ⟨0,⟨#[]⟩,⟨#[]⟩⟩))=0 from rfl,f2_zero];exact HC2.out),hxr⟩
     case round =>
      clear b1r HC2 hxw hxr
      obtain⟨t,ec,ht,rfl,rfl,HC,hxr⟩:=hrel
      obtain⟨wo,rfl⟩:∃ wo:World,wo=wr:=⟨_,rfl⟩
      have hxw:=hx02.trans hxr
      have b1r:=b1.ext (hx2.trans hxr)
      have e3:=b1r.cell;have l3':=b1r.lt
      by_cases hlt:t < l8
      ·have hk1:t < qs.length:=by rw[H8.out];exact hlt
       obtain⟨bi,oi,rfl,hXs⟩:=(HIS.out.ext hxw) (fun e=>by rw[e] at hk1;exact absurd hk1 (Nat.not_lt_zero _))
       have LD:=load_Sto (hXs t hk1)
       have hss:=HS.out.steps _ (List.getElem_mem hk1)
       have CI:=Hy (fun W (h:Ext w W)=>StepError_any qs[t] W (HG.out.toGood.ext h) hss.1 hss.2)
       have HNX:=Hy (show firstI [ec,stoErr qs[t]]=f2 (f2 (f2 B EN) EI) (firstN (t+1) (fun i=>stoErr (qs.getD i ⟨0,⟨#[]⟩,⟨#[]⟩⟩))) from by rw[firstN_succ,show qs.getD t ⟨0,⟨#[]⟩,⟨#[]⟩⟩=qs[t] from by simp[List.getD,List.getElem?_eq_getElem hk1],firstI_f2,firstI_f2,firstI,f2_zero,HC.out,f2_assoc])
       clear hXs hss
       generalize stoErr qs[t]=Z at *
       generalize qs[t]=y at *
       obtain⟨yk,yn,yv⟩:=y
       dsimp only[stoV] at *
       have hxi:Ext wo (wo.alloc (.cells #[.int .i64 yk,.string yn,.string yv] 108)):=(Ext.refl wo).alloc _
       have b8:=Blk.new wo 108 #[.int .i64 yk,.string yn,.string yv]
       generalize hW8:wo.alloc (.cells #[.int .i64 yk,.string yn,.string yv] 108)=W8 at *
       have HW8:=Hy hW8
       clear hW8
       have e8:=b8.cell;have l8':=b8.lt
       go_wp2_with (refine wpList_load_at rfl _ _ rfl _ rfl _ LD ?_)
       rw[HW8.out]
       refine (CI.out _ (hxw.trans hxi)).mono ?_
       rintro e w9 ⟨rfl,hx9⟩
       clear e8 l8' e3 l3' LD
       go_wp2_with fail
       refine (First_any _ _ [ec,Z] _ ?_ (by simp)).mono ?_
       ·intro kq hkq
        rw[World.cell?_alloc_at _ _ _ _ rfl]
        match kq,hkq with
        | 0,_=>rfl
        | 1,_=>rfl
       rintro e w' ⟨rfl,rfl⟩
       go_wp2
       go_roundw
       case rel=>exact⟨t+1,_,by omega,by go_num,rfl,HNX,(hxr.trans (hxi.trans hx9)).alloc _⟩
       case measure=>simp[intOf];omega
      ·obtain rfl:t=l8:=by omega
       have HEE:=Hy (show E=ec from by rw[HE.out,HC.out,HCS.out])
       go_wp2
       go_ret
       exact⟨ret_int HEE.out.symm,hxw⟩
end Go.Proofs.YtmpccllnpcbgcaaGreatDoor
