/- Contract of pack.servicesFault. -/
import Derived.Test.YtmpccllnpcbgcaaGreatDoorPk24
import Derived.Test.YtmpccllnpcbgcaaGreatDoorPk27
namespace Go.Proofs.YtmpccllnpcbgcaaGreatDoor
open Go.RowKit
theorem path_small {l:List Cmp} (hs:∀ c∈l,∀ x∈c.items,SmallI x) {k:Nat} (hk:k < l.length) {j:Nat} (hj:j < l[k].items.length):l[k].items[j].path.size<=2097152∧l[k].items[j].sp.size<=2097152 :=
 ⟨(hs _ (List.getElem_mem hk) _ (List.getElem_mem hj)).path,(hs _ (List.getElem_mem hk) _ (List.getElem_mem hj)).sp⟩
theorem RdC.at {w:World} {b o:Nat} {l:List Cmp} (h:RdC w (some ⟨b,o,none⟩) l) {q:Nat} (hq:q < l.length):∃ k n x A2 m c2 A3 c3 A4 c4 A5 c5,CmRow w b (o+q * 11) l[q] k n x A2 m c2 A3 c3 A4 c4 A5 c5:=by
 obtain⟨b',o',e,hX⟩:=h (fun e=>by rw[e] at hq;exact absurd hq (Nat.not_lt_zero _))
 injection e with e
 injection e with e1 e2
 subst e1;subst e2
 exact hX q hq
theorem RdI.at {w:World} {A:Option Addr} {l:List Itm} (h:RdI w A l) {q:Nat} (hq:q < l.length):∃ b o,A=some ⟨b,o,none⟩:=by
 obtain⟨b,o,e,_⟩:=h (fun e=>by rw[e] at hq;exact absurd hq (Nat.not_lt_zero _))
 exact⟨b,o,e⟩
theorem RdI.row {w:World} {b o:Nat} {l:List Itm} (h:RdI w (some ⟨b,o,none⟩) l) {q:Nat} (hq:q < l.length):ItRow w b (o+q * 10) l[q]:=by
 obtain⟨b',o',e,hX⟩:=h (fun e=>by rw[e] at hq;exact absurd hq (Nat.not_lt_zero _))
 injection e with e
 injection e with e1 e2
 subst e1;subst e2
 exact hX q hq
set_option maxHeartbeats 32000000 in
set_option maxRecDepth 100000 in
theorem servicesFault_any (p:Pkg) (A:Option Addr) (c:Nat) (A2:Option Addr) (c2:Nat) (A3:Option Addr) (c3:Nat) (A4:Option Addr) (c4:Nat) (w:World) (hr:RdC w A3 p.comps) (h30:p.comps.length<=30) (hnl:∀ c∈p.comps,c.needs.length<=2097152) (hnd:(p.comps.map Cmp.name).Nodup) (hit:∀ c∈p.comps,∀ x∈c.items,SmallI x) (hall:(itemsL p.comps).length<=2097152) :
 Calls Tryz.prog 217 #[pkV p A c A2 c2 A3 c3 A4 c4] w fun e w'=>e=.returned (.int .i64 (firstN p.comps.length (svcAt p.comps)))∧Ext w w':=by
 have HR:=Hy hr
 have HRE:=Hy (fun W (h:Ext w W) ns An nn cn (hnn:ns.length=nn) (hrn:RdX W An ns) (hln:nn<=2097152)=>reach_any p A c A2 c2 A3 c3 A4 c4 ns An nn cn W (hr.ext h) h30 hnl hnd hnn hrn hln)
 have HGD:=Hy (fun k (hk:k < p.comps.length)=>svc_good hnd hk)
 have HBD:=Hy (fun k (hk:k < p.comps.length) j hj=>svc_bad hnd hk (j:=j) hj)
 have HBS:=Hy (fun n k (hk:k < p.comps.length)=>bools_self p.comps n k hk)
 have HIT:=Hy (fun k (hk:k < p.comps.length) j hj=>path_small hit hk (j:=j) hj)
 have HLE:=Hy (itemsL_le p.comps)
 have HLT:=Hy (itemsL_take p.comps)
 have HFS:=Hy (fun V k=>filesL_succ (l:=p.comps) (V:=V) (k:=k))
 have HNL:=Hy hnl
 have HBAD:=Hy (fun k=>firstN_at (n:=p.comps.length) (f:=svcAt p.comps) (k:=k))
 have HZ:=Hy (firstN_zero (n:=p.comps.length) (f:=svcAt p.comps))
 obtain⟨E,hE⟩:∃ E,E=firstN p.comps.length (svcAt p.comps):=⟨_,rfl⟩
 rw[<-hE] at HBAD HZ ⊢
 clear hr hnl hnd hE hit
 obtain⟨pn,⟨v1,v2,v3,va⟩,pt,pe,pb,l,pm⟩:=p
 dsimp only[pkV] at *
 generalize pe.length=l1 at *
 generalize pb.length=l2 at *
 generalize pm.length=l4 at *
 generalize hn:l.length=n at h30 HRE HBAD HZ ⊢
 have HN:=Hy hn
 clear hn
 have b0:=Blk.new w 76 #[.string pn,.int .i64 v1,.int .i64 v2,.int .i64 v3,.string va,.string pt,.slice A l1 c,.slice A2 l2 c2,.slice A3 n c3,.slice A4 l4 c4]
 have hx0:Ext w (w.alloc (.cells #[.string pn,.int .i64 v1,.int .i64 v2,.int .i64 v3,.string va,.string pt,.slice A l1 c,.slice A2 l2 c2,.slice A3 n c3,.slice A4 l4 c4] 76)):=(Ext.refl w).alloc _
 generalize hW0:w.alloc (.cells #[.string pn,.int .i64 v1,.int .i64 v2,.int .i64 v3,.string va,.string pt,.slice A l1 c,.slice A2 l2 c2,.slice A3 n c3,.slice A4 l4 c4] 76)=W0 at *
 have HW0:=Hy hW0
 have e0:=b0.cell
 clear hW0
 go_enter Tryz.func217,Tryz.ntmps217
 go_wp2
 rw[HW0.out]
 go_loopw [16] (fun i wr=>∃ k:Nat,k<=n∧i=.int .i64 k∧Hid (∀ j,j < k->svcAt l j=0)∧Hid (Blk wr w.heap.size 76 #[.string pn,.int .i64 v1,.int .i64 v2,.int .i64 v3,.string va,.string pt,.slice A l1 c,.slice A2 l2 c2,.slice A3 n c3,.slice A4 l4 c4])∧Ext w wr) (fun i _=>n - (intOf i).toNat)
 case atStart=>exact⟨0,Nat.zero_le _,rfl,fun j h=>absurd h (Nat.not_lt_zero _),b0,hx0⟩
 case round =>
  obtain⟨k,hk,rfl,H0,B2,hxr⟩:=hrel
  obtain⟨wo,rfl⟩:∃ wo:World,wo=wr:=⟨_,rfl⟩
  clear e0 b0
  by_cases hlt:k < n
  ·have hk1:k < l.length:=by rw[HN.out];exact hlt
   obtain⟨b,o,rfl,hX⟩:=HR.out (fun e=>by rw[e] at hk1;exact absurd hk1 (Nat.not_lt_zero _))
   obtain⟨k0,n0,x0,A5,m5,c5,A6,c6,A7,c7,A8,c8,hrow⟩:=hX k hk1
   have LD:=load_Cm (hrow.ext hxr)
   have HIN:=Hy (hrow.has.needs.ext hxr)
   have HII:=Hy hrow.has.items
   have hnl6:=HNL.out _ (List.getElem_mem hk1)
   have HGD1:=Hy (HGD.out k hk1)
   have hl7:l[k].items.length<=2097152:=by
    have h:=HLE.out (k+1)
    rw[HLT.out k hk1,List.length_append] at h
    omega
   have HBD1:=Hy (HBD.out k hk1)
   have HIT1:=Hy (HIT.out k hk1)
   have HBS1:=Hy (HBS.out n k hk1 (fun i=>hasB l l[k].needs (l.getD i zeroP).name) rfl)
   have HBE:=Hy (show svcAt l k=10->E=10 from fun h=>by rw[HBAD.out k hlt H0.out (by rw[h];decide),h])
   have HNX:=Hy (show svcAt l k=0->∀ j,j < k+1->svcAt l j=0 from firstN_next H0.out)
   have CR:=Hy (fun W (h:Ext wo W)=>HRE.out W (hxr.trans h) l[k].needs A6 l[k].needs.length c6 rfl (HIN.out.ext h) hnl6)
   clear hX hrow HGD HBD HBS
   generalize hVV:(fun i=>hasB l l[k].needs (l.getD i zeroP).name)=V0 at *
   generalize selfV l k=V at *
   generalize svcAt l k=Z at *
   generalize l[k]=q at *
   obtain⟨qn,qt,qd,qa,qw,qe,qi,qs⟩:=q
   dsimp only[cmV] at *
   generalize qe.length=l6 at *
   generalize h7:qi.length=l7 at LD hl7 ⊢
   have H7:=Hy h7
   generalize qs.length=l8 at *
   have b1:=Blk.new wo 82 #[.string qn,.string qt,.bool qd,.bool qa,.int .i64 k0,.string n0,.string x0,.slice A5 m5 c5,.slice A6 l6 c6,.slice A7 l7 c7,.slice A8 l8 c8]
   have hxa:Ext wo (wo.alloc (.cells #[.string qn,.string qt,.bool qd,.bool qa,.int .i64 k0,.string n0,.string x0,.slice A5 m5 c5,.slice A6 l6 c6,.slice A7 l7 c7,.slice A8 l8 c8] 82)):=(Ext.refl wo).alloc _
   have hsa:(wo.alloc (.cells #[.string qn,.string qt,.bool qd,.bool qa,.int .i64 k0,.string n0,.string x0,.slice A5 m5 c5,.slice A6 l6 c6,.slice A7 l7 c7,.slice A8 l8 c8] 82)).heap.size=wo.heap.size+1:=World.size_alloc _ _
   generalize hW1:wo.alloc (.cells #[.string qn,.string qt,.bool qd,.bool qa,.int .i64 k0,.string n0,.string x0,.slice A5 m5 c5,.slice A6 l6 c6,.slice A7 l7 c7,.slice A8 l8 c8] 82)=W1 at *
   have HW1:=Hy hW1
   have b2a:=B2.out.ext hxa
   clear hW1 h7 hVV
   have e1:=b1.cell;have l1':=b1.lt;have e2:=b2a.cell;have l2':=b2a.lt
   have e2o:=B2.out.cell;have l2o:=B2.out.lt
   go_wp2_with (refine wpList_load_at rfl _ _ rfl _ rfl _ LD ?_)
   rw[HW1.out]
   refine (CR.out _ hxa).mono ?_
   rintro e w3 ⟨g,rfl,hgl,hB,hx3⟩
   clear e1 l1' e2 l2' LD e2o l2o
   have hs3:=hx3.size
   have hso:=hxr.size
   have hms:(w3.setCell ⟨g,k,none⟩ (.bool true)).heap.size=w3.heap.size:=by simp[World.setCell]
   have hcv:=(hB.cell k).trans (boolsA_get hlt)
   have hfv:=hB.free k
   have hgl3:=hB.lt
   have hbt:Blk (w3.setCell ⟨g,k,none⟩ (.bool true)) g 4 (boolsA n V):=by
    have h:=hB.set k (.bool true)
    rwa [HBS1.out] at h
   have hmade:=KSet.made (w3.setCell ⟨g,k,none⟩ (.bool true))
   rw[hms] at hmade
   have HST0:=Hy (show SvSt w w.heap.size #[.string pn,.int .i64 v1,.int .i64 v2,.int .i64 v3,.string va,.string pt,.slice A l1 c,.slice A2 l2 c2,.slice (some ⟨b,o,none⟩) n c3,.slice A4 l4 c4] wo.heap.size #[.string qn,.string qt,.bool qd,.bool qa,.int .i64 k0,.string n0,.string x0,.slice A5 m5 c5,.slice A6 l6 c6,.slice A7 l7 c7,.slice A8 l8 c8] g (boolsA n V) w3.heap.size 0 [] ((w3.setCell ⟨g,k,none⟩ (.bool true)).alloc (.map #[] 0)) from
    ⟨((b2a.ext hx3).far (by show w.heap.size≠g;omega) _).alloc _,((b1.ext hx3).far (by show wo.heap.size≠g;omega) _).alloc _,hbt.alloc _,hmade,((hxr.trans (hxa.trans hx3)).setCell (by show w.heap.size<=g;omega) _).alloc _,by omega⟩)
   have e5:=HST0.out.p.cell;have l5:=HST0.out.p.lt
   have HR3:=Hy (fun q (hq:q < l.length)=>RdC.at HR.out hq)
   have hmm:=@run_makeMap Tryz.prog
   clear hB b1 b2a B2 hmade hbt
   go_wp2
   clear e5 l5 hmm hcv hfv
   go_loopw [32] (fun i wr=>∃ k2:Nat,k2<=n∧i=.int .i64 k2∧∃ N,N<=(itemsL (l.take k2)).length∧Hid (SvSt w w.heap.size #[.string pn,.int .i64 v1,.int .i64 v2,.int .i64 v3,.string va,.string pt,.slice A l1 c,.slice A2 l2 c2,.slice (some ⟨b,o,none⟩) n c3,.slice A4 l4 c4] wo.heap.size #[.string qn,.string qt,.bool qd,.bool qa,.int .i64 k0,.string n0,.string x0,.slice A5 m5 c5,.slice A6 l6 c6,.slice A7 l7 c7,.slice A8 l8 c8] g (boolsA n V) w3.heap.size N (filesL l V k2) wr)) (fun i _=>n - (intOf i).toNat)
   case atStart=>exact⟨0,Nat.zero_le _,rfl,0,Nat.zero_le _,HST0⟩
   case round =>
    obtain⟨k2,hk2,rfl,N,hN,HS⟩:=hrel
    obtain⟨w5,rfl⟩:∃ w5:World,w5=wr:=⟨_,rfl⟩
    have hx5:=HS.out.x
    by_cases hlt2:k2 < n
    ·have hk2l:k2 < l.length:=by rw[HN.out];exact hlt2
     obtain⟨k1,n1,x1,B5,d5,f5,B6,f6,B7,f7,B8,f8,hrow⟩:=HR3.out k2 hk2l
     have LD:=load_Cm (hrow.ext hx5)
     have HII2:=Hy hrow.has.items
     have HLT2:=HLT.out k2 hk2l
     have hle2:=HLE.out (k2+1)
     rw[HLT2,List.length_append] at hle2
     have HLL2:=Hy (show (itemsL (l.take (k2+1))).length=(itemsL (l.take k2)).length+l[k2].items.length from by rw[HLT2,List.length_append])
     have HFS2:=Hy (HFS.out V k2 hk2l)
     have HIT2:=Hy (HIT.out k2 hk2l)
     clear hrow HLT2
     generalize l[k2]=q2 at *
     obtain⟨dn,dt,dd,da,dw,de,di,ds⟩:=q2
     dsimp only[cmV] at *
     generalize de.length=d6 at *
     generalize hd7:di.length=d7 at LD HLL2 hle2 ⊢
     have HD7:=Hy hd7
     generalize ds.length=d8 at *
     clear hd7
     have hxb:Ext w5 (w5.alloc (.cells #[.string dn,.string dt,.bool dd,.bool da,.int .i64 k1,.string n1,.string x1,.slice B5 d5 f5,.slice B6 d6 f6,.slice B7 d7 f7,.slice B8 d8 f8] 82)):=(Ext.refl w5).alloc _
     have b6:=Blk.new w5 82 #[.string dn,.string dt,.bool dd,.bool da,.int .i64 k1,.string n1,.string x1,.slice B5 d5 f5,.slice B6 d6 f6,.slice B7 d7 f7,.slice B8 d8 f8]
     generalize hW6:w5.alloc (.cells #[.string dn,.string dt,.bool dd,.bool da,.int .i64 k1,.string n1,.string x1,.slice B5 d5 f5,.slice B6 d6 f6,.slice B7 d7 f7,.slice B8 d8 f8] 82)=W6 at *
     have HW6:=Hy hW6
     clear hW6
     have e6:=b6.cell;have l6':=b6.lt
     go_wp2_with (refine wpList_load_at rfl _ _ rfl _ rfl _ LD ?_)
     rw[HW6.out]
     clear e6 l6' LD b6
     have HS6:=Hy (HS.out.ext hxb)
     go_loopw [40] (fun i wr=>∃ j:Nat,j<=d7∧i=.int .i64 j∧∃ M,M<=N+j∧Hid (SvSt w w.heap.size #[.string pn,.int .i64 v1,.int .i64 v2,.int .i64 v3,.string va,.string pt,.slice A l1 c,.slice A2 l2 c2,.slice (some ⟨b,o,none⟩) n c3,.slice A4 l4 c4] wo.heap.size #[.string qn,.string qt,.bool qd,.bool qa,.int .i64 k0,.string n0,.string x0,.slice A5 m5 c5,.slice A6 l6 c6,.slice A7 l7 c7,.slice A8 l8 c8] g (boolsA n V) w3.heap.size M (filesL l V k2++if V k2=true then filesIn (di.take j) else []) wr)) (fun i _=>d7 - (intOf i).toNat)
     case atStart=>exact⟨0,Nat.zero_le _,rfl,N,Nat.le_refl _,Hy (HS6.out.congr (by simp[filesIn]) (Nat.le_refl _))⟩
     case round =>
      obtain⟨j,hj,rfl,M,hM,HSj⟩:=hrel
      obtain⟨w7,rfl⟩:∃ w7:World,w7=wr:=⟨_,rfl⟩
      have hx7:=HSj.out.x
      by_cases hlt3:j < d7
      ·have hj1:j < di.length:=by rw[HD7.out];exact hlt3
       obtain⟨b7,o7,rfl⟩:=RdI.at HII2.out hj1
       have HFJ:=Hy (filesIn_succ hj1)
       have hpth:=(HIT2.out j hj1).1
       have LD:=load_It (RdI.row (HII2.out.ext hx7) hj1)
       have CI:=Hy (fun W=>isFile_any di[j] W)
       generalize di[j]=y at *
       generalize hK:decide (spotK y=1)=K at *
       have HFJ:=Hy (show filesIn (di.take (j+1))=filesIn (di.take j)++if K=true then [bs y.path] else [] from by rw[HFJ.out,<-hK];simp only[decide_eq_true_eq])
       clear hK
       obtain⟨xk,xp,xd,xr,xe,xv,xs,xq,xa,xo⟩:=y
       dsimp only[itmV] at *
       have hxi:Ext w7 (w7.alloc (.cells #[.int .i64 xk,.string xp,.string xd,.bool xr,.string xe,.string xv,.string xs,.string xq,.bool xa,.bool xo] 104)):=(Ext.refl w7).alloc _
       have b8:=Blk.new w7 104 #[.int .i64 xk,.string xp,.string xd,.bool xr,.string xe,.string xv,.string xs,.string xq,.bool xa,.bool xo]
       have HS8:=Hy (HSj.out.ext hxi)
       generalize hW8:w7.alloc (.cells #[.int .i64 xk,.string xp,.string xd,.bool xr,.string xe,.string xv,.string xs,.string xq,.bool xa,.bool xo] 104)=W8 at *
       have HW8:=Hy hW8
       clear hW8
       have e8:=b8.cell;have l8':=b8.lt
       have hcv:=(HSj.out.i.cell k2).trans (boolsA_get hlt2)
       have hgl8:=HSj.out.i.lt
       cases hVk:V k2 with
       | false =>
         rw[hVk] at hcv
         have HSN:=Hy (HS8.out.congr (L':=filesL l V k2++if V k2=true then filesIn (di.take (j+1)) else []) (by rw[hVk];rfl) (Nat.le_refl _))
         rw[hVk] at HSN
         go_wp2_with (refine wpList_load_at rfl _ _ rfl _ rfl _ LD ?_)
         rw[HW8.out]
         go_roundw
         case rel=>exact⟨j+1,by omega,by go_num,M,by omega,HSN⟩
         case measure=>simp[intOf];omega
       | true =>
         rw[hVk] at hcv
         go_wp2_with (refine wpList_load_at rfl _ _ rfl _ rfl _ LD ?_)
         rw[HW8.out]
         refine (CI.out _).mono ?_
         rintro e w9 ⟨rfl,hx9⟩
         have HS9:=Hy (HS8.out.ext hx9)
         have e9:=(b8.ext hx9).cell;have l9:=(b8.ext hx9).lt
         clear e8 l8' hcv LD
         cases K with
         | false =>
           have HSN:=Hy (HS9.out.congr (L':=filesL l V k2++if V k2=true then filesIn (di.take (j+1)) else []) (by rw[HFJ.out];simp) (Nat.le_refl _))
           rw[hVk] at HSN
           go_wp2
           go_roundw
           case rel=>exact⟨j+1,by omega,by go_num,M,by omega,HSN⟩
           case measure=>simp[intOf];omega
         | true =>
           obtain⟨w10,hr10,hm10,hg10⟩:=HS9.out.m.upd (t:=191) Tryz.underlying191 xp (by omega) (by omega)
           have HSN:=Hy ((HS9.out.upd hg10 hm10).congr (L':=filesL l V k2++if V k2=true then filesIn (di.take (j+1)) else []) (by rw[HFJ.out,hVk];simp) (Nat.le_refl _))
           rw[hVk] at HSN
           clear hm10 hg10
           go_wp2
           go_roundw
           case rel=>exact⟨j+1,by omega,by go_num,M+1,by omega,HSN⟩
           case measure=>simp[intOf];omega
      ·obtain rfl:j=d7:=by omega
       have HFIN:=Hy (show (filesL l V k2++if V k2=true then filesIn (di.take j) else [])=filesL l V (k2+1) from by rw[HFS2.out,List.take_of_length_le (by rw[HD7.out];exact Nat.le_refl _)])
       go_wp2
       go_roundw
       case rel=>exact⟨k2+1,by omega,by go_num,M,by rw[HLL2.out];omega,Hy (HSj.out.congr HFIN.out (Nat.le_refl _))⟩
       case measure=>simp[intOf];omega
    ·obtain rfl:n=k2:=by omega
     have ec:=HS.out.c.cell;have lc:=HS.out.c.lt
     go_wp2
     clear ec lc
     go_loopw [61] (fun i wr=>∃ j:Nat,j<=l7∧i=.int .i64 j∧Hid (∀ q (hq:q < qi.length),q < j->svcOk l V qi[q]=true)∧Hid (SvSt w w.heap.size #[.string pn,.int .i64 v1,.int .i64 v2,.int .i64 v3,.string va,.string pt,.slice A l1 c,.slice A2 l2 c2,.slice (some ⟨b,o,none⟩) n c3,.slice A4 l4 c4] wo.heap.size #[.string qn,.string qt,.bool qd,.bool qa,.int .i64 k0,.string n0,.string x0,.slice A5 m5 c5,.slice A6 l6 c6,.slice A7 l7 c7,.slice A8 l8 c8] g (boolsA n V) w3.heap.size N (filesL l V n) wr)) (fun i _=>l7 - (intOf i).toNat)
     case atStart=>exact⟨0,Nat.zero_le _,rfl,Hy (fun _ _ h=>absurd h (Nat.not_lt_zero _)),HS⟩
     case round =>
      obtain⟨j,hj,rfl,HOK,HSj⟩:=hrel
      obtain⟨w7,rfl⟩:∃ w7:World,w7=wr:=⟨_,rfl⟩
      have hx7:=HSj.out.x
      by_cases hlt3:j < l7
      ·have hj1:j < qi.length:=by rw[H7.out];exact hlt3
       obtain⟨b7,o7,rfl⟩:=RdI.at HII.out hj1
       have hpth:=(HIT1.out j hj1).2
       have LD:=load_It (RdI.row (HII.out.ext hx7) hj1)
       have HBJ:=Hy (HBD1.out j hj1)
       have HOJ:=Hy (show svcOk l V qi[j]=true->∀ q (hq:q < qi.length),q < j+1->svcOk l V qi[q]=true from fun h q hq hqj=>by
        rcases Nat.lt_or_ge q j with h1|h1
        ·exact HOK.out q hq h1
        ·obtain rfl:q=j:=by omega
         exact h)
       have HSV:=Hy (show svcOk l V qi[j]=(!decide (qi[j].kind=6)||decide (bs qi[j].sp∈filesL l V n)) from by rw[<-HN.out];rfl)
       generalize qi[j]=y at *
       obtain⟨xk,xp,xd,xr,xe,xv,xs,xq,xa,xo⟩:=y
       dsimp only[itmV] at *
       have hxi:Ext w7 (w7.alloc (.cells #[.int .i64 xk,.string xp,.string xd,.bool xr,.string xe,.string xv,.string xs,.string xq,.bool xa,.bool xo] 104)):=(Ext.refl w7).alloc _
       have b8:=Blk.new w7 104 #[.int .i64 xk,.string xp,.string xd,.bool xr,.string xe,.string xv,.string xs,.string xq,.bool xa,.bool xo]
       have HS8:=Hy (HSj.out.ext hxi)
       have hlook:=HS8.out.m.look (t:=191) Tryz.underlying191 xq (by omega)
       have e8:=b8.cell;have l8':=b8.lt
       generalize decide (bs xq∈filesL l V n)=D at *
       generalize svcOk l V ⟨xk,xp,xd,xr,xe,xv,xs,xq,xa,xo⟩=G at *
       by_cases h6:xk=6
       ·subst h6
        cases D with
        | false =>
          have HEE:=Hy (HBE.out (HBJ.out (by rw[HSV.out];rfl)))
          go_wp2_with (refine wpList_load_at rfl _ _ rfl _ rfl _ LD ?_)
          go_ret
          exact⟨ret_int HEE.out.symm,HS8.out.x⟩
        | true =>
          have HO2:=Hy (HOJ.out (by rw[HSV.out];rfl))
          go_wp2_with (refine wpList_load_at rfl _ _ rfl _ rfl _ LD ?_)
          go_roundw
          case rel=>exact⟨j+1,by omega,by go_num,HO2,HS8⟩
          case measure=>simp[intOf];omega
       ·have HO2:=Hy (HOJ.out (by rw[HSV.out,decide_eq_false h6];rfl))
        have hne:(xk==6)=false:=by rw[beq_eq_false_iff_ne];exact h6
        clear h6
        go_wp2_with (refine wpList_load_at rfl _ _ rfl _ rfl _ LD ?_)
        go_roundw
        case rel=>exact⟨j+1,by omega,by go_num,HO2,HS8⟩
        case measure=>simp[intOf];omega
      ·obtain rfl:j=l7:=by omega
       have HO:=Hy (HNX.out (HGD1.out (fun q hq=>HOK.out q hq (by rw[<-H7.out];exact hq))))
       go_wp2
       go_roundw
       case rel=>exact⟨k+1,by omega,by go_num,HO,HSj.out.p,HSj.out.x⟩
       case measure=>simp[intOf];omega
  ·obtain rfl:k=n:=by omega
   have HM:=Hy (HZ.out H0.out)
   have e2:=B2.out.cell
   go_wp2
   go_ret
   exact⟨ret_int HM.out.symm,hxr⟩
end Go.Proofs.YtmpccllnpcbgcaaGreatDoor
