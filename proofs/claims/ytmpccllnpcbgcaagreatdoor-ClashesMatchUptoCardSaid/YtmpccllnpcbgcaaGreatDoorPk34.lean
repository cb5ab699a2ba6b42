/- Contract of pack.componentFault. Contract of pack.Check. -/
import Derived.Test.YtmpccllnpcbgcaaGreatDoorPk31
import Derived.Test.YtmpccllnpcbgcaaGreatDoorPk32
namespace Go.Proofs.YtmpccllnpcbgcaaGreatDoor
section
open Go.RowKit
set_option maxHeartbeats 8000000 in
set_option maxRecDepth 100000 in
theorem componentFault_any (p:Cmp) (bef:List Cmp) (k:Int) (n x:ByteArray) (A2:Option Addr) (m c2:Nat) (A3:Option Addr) (c3:Nat) (A4:Option Addr) (c4:Nat) (A5:Option Addr) (c5:Nat) (B:Option Addr) (nb cb:Nat) (w:World) (hg:GoodN w) (hp:CmIn w p k n x A2 m c2 A3 c3 A4 c4 A5 c5) (hb:RdC w B bef) (hnb:bef.length=nb) (hl:nb<=2097152) (hs:SmallCm p) :
 Calls Tryz.prog 120 #[cmV p k n x A2 m c2 A3 c3 A4 c4 A5 c5,.slice B nb cb] w fun e w'=>e=.returned (.int .i64 (cpErr bef p))∧Ext w w':=by
 have CN:=Hy (fun W=>IsName_any p.name W hs.name)
 have CV:=Hy (fun W=>IsValue_any p.title W hs.title)
 have CC:=Hy (fun W (h:Ext w W)=>CheckCond_any p.wh _ AnyB W (hg.ext h) (hp.wh.ext h) hs.wh hs.cnt)
 have CB:=Hy (fun W g (h:Ext w W) (hc:W.cell? ⟨g,0,none⟩=some (.string p.name))=>ContainsCm_any 205 (fun _ _=>rfl) bef B nb cb g p.name W hnb (hb.ext h) hl hc (fun q k n x A2 m c2 A3 c3 A4 c4 A5 c5 W' hW'=>compC_any q k n x A2 m c2 A3 c3 A4 c4 A5 c5 g p.name W' (hW'.cell hc)))
 have HE:=Hy (show cpErr bef p=firstI [(if nameL (bs p.name)=true then 0 else 5),(if bef.any (fun d=>decide (d.name=p.name))=true then 6 else 0),(if valueL (bs p.title)=true then 0 else 2),checkC p.wh,cnErr p,citErr p,cstErr p] from rfl)
 have HA1:=Hy (show ∀ k,k < p.needs.length->(∀ j,j < k->cnAt p.name p.needs j=0)->¬ cnAt p.name p.needs k=0->cnErr p=cnAt p.name p.needs k from fun k hk h0 h=>firstN_at hk h0 h)
 have HZ1:=Hy (show (∀ j,j < p.needs.length->cnAt p.name p.needs j=0)->cnErr p=0 from fun h0=>firstN_zero h0)
 have HA2:=Hy (show ∀ k,k < p.items.length->(∀ j,j < k->itErr (p.items.getD j zeroI)=0)->¬ itErr (p.items.getD k zeroI)=0->citErr p=itErr (p.items.getD k zeroI) from fun k hk h0 h=>firstN_at hk h0 h)
 have HZ2:=Hy (show (∀ j,j < p.items.length->itErr (p.items.getD j zeroI)=0)->citErr p=0 from fun h0=>firstN_zero h0)
 have HA3:=Hy (show ∀ k,k < p.steps.length->(∀ j,j < k->stoErr (p.steps.getD j ⟨0,⟨#[]⟩,⟨#[]⟩⟩)=0)->¬ stoErr (p.steps.getD k ⟨0,⟨#[]⟩,⟨#[]⟩⟩)=0->cstErr p=stoErr (p.steps.getD k ⟨0,⟨#[]⟩,⟨#[]⟩⟩) from fun k hk h0 h=>firstN_at hk h0 h)
 have HZ3:=Hy (show (∀ j,j < p.steps.length->stoErr (p.steps.getD j ⟨0,⟨#[]⟩,⟨#[]⟩⟩)=0)->cstErr p=0 from fun h0=>firstN_zero h0)
 have HG:=Hy hg
 have HP:=Hy hp
 have HS:=Hy hs
 generalize cpErr bef p=E at *
 generalize bef.any (fun d=>decide (d.name=p.name))=AN at *
 generalize cnErr p=EN at *
 generalize citErr p=EI at *
 generalize cstErr p=ES at *
 generalize checkC p.wh=EC at *
 obtain⟨pn,pt,pd,pa,pw,pe,pi,ps⟩:=p
 dsimp only[cmV] at *
 generalize nameL (bs pn)=Q1 at *
 generalize valueL (bs pt)=Q2 at *
 have hcap:=hp.cap
 have hx3:=Hy hp.needs
 have hx4:=Hy hp.items
 have hx5:=Hy hp.steps
 have hsl:=hs.nlen
 have hsi:=hs.ilen
 have hss:=hs.slen
 have S1:=Hy hs.items
 have S2:=Hy hs.steps
 dsimp only at hx3 hx4 hx5 hsl hsi hss hcap S1 S2
 clear hg hp hb hs HP HS
 obtain⟨hcap3,hcap4,hcap5⟩:=hcap
 generalize h3:pe.length=l3 at *
 generalize h4:pi.length=l4 at *
 generalize h5:ps.length=l5 at *
 have H3:=Hy h3
 have H4:=Hy h4
 have H5:=Hy h5
 clear h3 h4 h5
 have b0:=Blk.new w 82 #[.string pn,.string pt,.bool pd,.bool pa,.int .i64 k,.string n,.string x,.slice A2 m c2,.slice A3 l3 c3,.slice A4 l4 c4,.slice A5 l5 c5]
 have hx0:Ext w (w.alloc (.cells #[.string pn,.string pt,.bool pd,.bool pa,.int .i64 k,.string n,.string x,.slice A2 m c2,.slice A3 l3 c3,.slice A4 l4 c4,.slice A5 l5 c5] 82)):=(Ext.refl w).alloc _
 generalize hW:w.alloc (.cells #[.string pn,.string pt,.bool pd,.bool pa,.int .i64 k,.string n,.string x,.slice A2 m c2,.slice A3 l3 c3,.slice A4 l4 c4,.slice A5 l5 c5] 82)=W0 at *
 have HW:=Hy hW
 clear hW
 have e0:=b0.cell;have l0:=b0.lt
 have CB1:=Hy (CB.out W0 w.heap.size hx0 (e0 0))
 clear CB
 go_enter Tryz.func120,Tryz.ntmps120
 go_wp2_with fail
 rw[HW.out]
 go_wp2_with fail
 refine (CN.out _).mono ?_
 rintro e w' ⟨rfl,rfl⟩
 cases Q1
 ·go_wp2
  go_ret
  exact⟨ret_int (by rw[HE.out];simp[firstI]),hx0⟩
 go_wp2_with fail
 refine CB1.out.mono ?_
 rintro e w1 ⟨rfl,hx1⟩
 have hx01:=hx0.trans hx1
 have b1:=b0.ext hx1
 clear e0
 have e1:=b1.cell;have l1:=b1.lt
 cases AN
 rotate_left
 ·go_wp2
  go_ret
  exact⟨ret_int (by rw[HE.out];simp[firstI]),hx01⟩
 go_wp2_with fail
 refine (CV.out _).mono ?_
 rintro e w' ⟨rfl,rfl⟩
 cases Q2
 ·go_wp2
  go_ret
  exact⟨ret_int (by rw[HE.out];simp[firstI]),hx01⟩
 go_wp2_with fail
 refine (CC.out _ hx01).mono ?_
 rintro e w2 ⟨rfl,hx2⟩
 have hx02:=hx01.trans hx2
 have b2:=b1.ext hx2
 clear e1
 have e2:=b2.cell;have l2:=b2.lt
 by_cases h1:EC=0
 rotate_left
 ·have hne:(EC != 0)=true:=by rw[bne_iff_ne];exact h1
  have H1:=Hy h1
  clear h1
  go_wp2
  go_ret
  exact⟨ret_int (by rw[HE.out];simp[firstI,H1.out]),hx02⟩
 subst h1
 go_wp2
 go_loopw [37] (fun i wr=>∃ q:Nat,q<=l3∧i=.int .i64 q∧Hid (∀ j,j < q->cnAt pn pe j=0)∧wr=w2) (fun i _=>l3 - (intOf i).toNat)
 case atStart=>exact⟨0,Nat.zero_le _,rfl,fun j h=>absurd h (Nat.not_lt_zero _),rfl⟩
 case round =>
  obtain⟨q,hq,rfl,H0,rfl⟩:=hrel
  by_cases hlt:q < l3
  ·have hk1:q < pe.length:=by rw[H3.out];exact hlt
   obtain⟨b,o,rfl,hX⟩:=(hx3.out.ext hx02) (fun e=>by rw[e] at hk1;exact absurd hk1 (Nat.not_lt_zero _))
   have hC:=hX q hk1
   have CT:=Hy (fun W (h:Ext w W)=>ContainsX_any (some ⟨b,o,none⟩) c3 q pe pe[q] W (hx3.out.ext h) (by rw[H3.out];exact hsl) (fun e=>by rw[e] at hk1;exact absurd hk1 (Nat.not_lt_zero _)) (by omega))
   have HBAD:=Hy (HA1.out q hlt H0.out)
   have HNX:=Hy (show cnAt pn pe q=0->∀ j,j < q+1->cnAt pn pe j=0 from firstN_next H0.out)
   have HV:=Hy (show cnAt pn pe q=if pe[q]=pn then 13 else if memB pe[q] (pe.take q)=true then 6 else 0 from by
    unfold cnAt
    simp[List.getD,List.getElem?_eq_getElem hk1])
   have hq2:=dec_toL pe[q] pn
   have hqc:q<=c3:=by omega
   clear hX
   generalize cnAt pn pe q=Z at *
   generalize memB pe[q] (pe.take q)=MB at *
   generalize pe[q]=y at *
   obtain⟨D2,hD2⟩:∃ D2,decide (y=pn)=D2:=⟨_,rfl⟩
   rw[hD2] at hq2
   have HV2:=Hy (show Z=if D2=true then 13 else if MB=true then 6 else 0 from by rw[HV.out,<-hD2];simp only[decide_eq_true_eq])
   clear hD2 HV
   cases D2
   rotate_left
   ·have HEE:=Hy (show E=13 from by rw[HE.out,HBAD.out (by rw[HV2.out];simp),HV2.out];simp[firstI])
    go_wp2
    go_ret
    exact⟨ret_int HEE.out.symm,hx02⟩
   go_wp2_with fail
   refine (CT.out _ hx02).mono ?_
   rintro e w3 ⟨rfl,rfl⟩
   cases MB
   rotate_left
   ·have HEE:=Hy (show E=6 from by rw[HE.out,HBAD.out (by rw[HV2.out];simp),HV2.out];simp[firstI])
    go_wp2
    go_ret
    exact⟨ret_int HEE.out.symm,hx02⟩
   have HO:=Hy (HNX.out (by rw[HV2.out];rfl))
   go_wp2
   go_roundw
   case rel=>exact⟨q+1,by omega,by go_num,HO.out,trivial⟩
   case measure=>simp[intOf];omega
  ·obtain rfl:q=l3:=by omega
   have HN:=Hy (HZ1.out H0.out)
   clear H0 HZ1 HA1
   go_wp2
   obtain⟨w2,rfl⟩:∃ w2:World,w2=wr:=⟨_,rfl⟩
   go_loopw [56] (fun i wq=>∃ r:Nat,r<=l4∧i=.int .i64 r∧Hid (∀ j,j < r->itErr (pi.getD j zeroI)=0)∧Ext w2 wq) (fun i _=>l4 - (intOf i).toNat)
   case atStart=>exact⟨0,Nat.zero_le _,rfl,fun j h=>absurd h (Nat.not_lt_zero _),Ext.refl _⟩
   case round =>
    obtain⟨r,hr,rfl,H0,hxr⟩:=hrel
    obtain⟨wo,rfl⟩:∃ wo:World,wo=wr:=⟨_,rfl⟩
    have hx0r:=hx02.trans hxr
    have b3:=b2.ext hxr
    clear e2
    have e3:=b3.cell;have l3':=b3.lt
    by_cases hlt:r < l4
    ·have hk1:r < pi.length:=by rw[H4.out];exact hlt
     obtain⟨b,o,rfl,hX⟩:=(hx4.out.ext hx0r) (fun e=>by rw[e] at hk1;exact absurd hk1 (Nat.not_lt_zero _))
     have LD:=load_It (hX r hk1)
     have hsm:=S1.out _ (List.getElem_mem hk1)
     have eg:pi.getD r zeroI=pi[r]:=by simp[List.getD,List.getElem?_eq_getElem hk1]
     have HBAD:=HA2.out r hlt H0.out
     have HNX:=show itErr (pi.getD r zeroI)=0->∀ j,j < r+1->itErr (pi.getD j zeroI)=0 from firstN_next H0.out
     rw[eg] at HBAD
     have HNX:=Hy (fun h=>HNX (by rw[eg];exact h))
     have HBAD:=Hy HBAD
     have CI:=Hy (fun W (h:Ext w W)=>ItemFault_any pi[r] W (HG.out.toGood.ext h) hsm)
     clear hX hsm eg
     generalize pi[r]=y at *
     generalize itErr y=Z at *
     obtain⟨xk,xp,xd,xr,xe,xv,xs,xq,xa,xo⟩:=y
     dsimp only[itmV] at *
     have b4:=Blk.new wo 104 #[.int .i64 xk,.string xp,.string xd,.bool xr,.string xe,.string xv,.string xs,.string xq,.bool xa,.bool xo]
     have hxa:Ext wo (wo.alloc (.cells #[.int .i64 xk,.string xp,.string xd,.bool xr,.string xe,.string xv,.string xs,.string xq,.bool xa,.bool xo] 104)):=(Ext.refl wo).alloc _
     generalize hW1:wo.alloc (.cells #[.int .i64 xk,.string xp,.string xd,.bool xr,.string xe,.string xv,.string xs,.string xq,.bool xa,.bool xo] 104)=W1 at *
     have HW1:=Hy hW1
     clear hW1
     have e4:=b4.cell;have l4':=b4.lt
     go_wp2_with (refine wpList_load_at rfl _ _ rfl _ rfl _ LD ?_)
     rw[HW1.out]
     refine (CI.out W1 (hx0r.trans hxa)).mono ?_
     rintro e w5 ⟨rfl,hx5'⟩
     have hxx:=hxr.trans (hxa.trans hx5')
     clear LD
     by_cases hZ:Z=0
     ·have HO:=Hy (HNX.out hZ)
      subst hZ
      go_wp2
      go_roundw
      case rel=>exact⟨r+1,by omega,by go_num,HO.out,hxx⟩
      case measure=>simp[intOf];omega
     ·have HEE:=Hy (show E=Z from by rw[HE.out,HBAD.out hZ,HN.out];simp[firstI,hZ])
      have hne:(Z != 0)=true:=by rw[bne_iff_ne];exact hZ
      clear hZ
      go_wp2
      go_ret
      exact⟨ret_int HEE.out.symm,hx02.trans hxx⟩
    ·obtain rfl:r=l4:=by omega
     have HN2:=Hy (HZ2.out H0.out)
     clear H0 HZ2 HA2
     go_wp2
     go_loopw [69] (fun i wq=>∃ t:Nat,t<=l5∧i=.int .i64 t∧Hid (∀ j,j < t->stoErr (ps.getD j ⟨0,⟨#[]⟩,⟨#[]⟩⟩)=0)∧Ext w2 wq) (fun i _=>l5 - (intOf i).toNat)
     case atStart=>exact⟨0,Nat.zero_le _,rfl,fun j h=>absurd h (Nat.not_lt_zero _),hxr⟩
     case round =>
      clear hx0r b3 e3 l3' hxr
      obtain⟨t,ht,rfl,H0,hxr⟩:=hrel
      obtain⟨wo,rfl⟩:∃ wo:World,wo=wr:=⟨_,rfl⟩
      have hx0r:=hx02.trans hxr
      by_cases hlt:t < l5
      ·have hk1:t < ps.length:=by rw[H5.out];exact hlt
       obtain⟨b,o,rfl,hX⟩:=(hx5.out.ext hx0r) (fun e=>by rw[e] at hk1;exact absurd hk1 (Nat.not_lt_zero _))
       have LD:=load_Sto (hX t hk1)
       have hsm:=S2.out _ (List.getElem_mem hk1)
       have eg:ps.getD t ⟨0,⟨#[]⟩,⟨#[]⟩⟩=ps[t]:=by simp[List.getD,List.getElem?_eq_getElem hk1]
       have HBAD:=HA3.out t hlt H0.out
       have HNX:=show stoErr (ps.getD t ⟨0,⟨#[]⟩,⟨#[]⟩⟩)=0->∀ j,j < t+1->stoErr (ps.getD j ⟨0,⟨#[]⟩,⟨#[]⟩⟩)=0 from firstN_next H0.out
       rw[eg] at HBAD
       have HNX:=Hy (fun h=>HNX (by rw[eg];exact h))
       have HBAD:=Hy HBAD
       have CI:=Hy (fun W (h:Ext w W)=>StepFault_any ps[t] W (HG.out.toGood.ext h) hsm.1 hsm.2)
       clear hX hsm eg
       generalize ps[t]=y at *
       generalize stoErr y=Z at *
       obtain⟨yk,yn,yv⟩:=y
       dsimp only[stoV] at *
       have b4:=Blk.new wo 108 #[.int .i64 yk,.string yn,.string yv]
       have hxa:Ext wo (wo.alloc (.cells #[.int .i64 yk,.string yn,.string yv] 108)):=(Ext.refl wo).alloc _
       generalize hW1:wo.alloc (.cells #[.int .i64 yk,.string yn,.string yv] 108)=W1 at *
       have HW1:=Hy hW1
       clear hW1
       have e4:=b4.cell;have l4':=b4.lt
       go_wp2_with (refine wpList_load_at rfl _ _ rfl _ rfl _ LD ?_)
       rw[HW1.out]
       refine (CI.out W1 (hx0r.trans hxa)).mono ?_
       rintro e w5 ⟨rfl,hx5'⟩
       have hxx:=hxr.trans (hxa.trans hx5')
       clear LD
       by_cases hZ:Z=0
       ·have HO:=Hy (HNX.out hZ)
        subst hZ
        go_wp2
        go_roundw
        case rel=>exact⟨t+1,by omega,by go_num,HO.out,hxx⟩
        case measure=>simp[intOf];omega
       ·have HEE:=Hy (show E=Z from by rw[HE.out,HBAD.out hZ,HN.out,HN2.out];simp[firstI,hZ])
        have hne:(Z != 0)=true:=by rw[bne_iff_ne];exact hZ
        clear hZ
        go_wp2
        go_ret
        exact⟨ret_int HEE.out.symm,hx02.trans hxx⟩
      ·obtain rfl:t=l5:=by omega
       have HEE:=Hy (show E=0 from by rw[HE.out,HN.out,HN2.out,HZ3.out H0.out];simp[firstI])
       go_wp2
       go_ret
       exact⟨ret_int HEE.out.symm,hx0r⟩
end
section
open Go.RowKit
theorem head_ok {p:Pkg} (h:headErr p=0):p.comps.length<=30∧0 < p.comps.length:=by
 have h1:=firstI_ne h
 have a:=h1 (if 30 < p.comps.length then 4 else 0) (by simp)
 have b:=h1 (if p.comps.length=0 then 9 else 0) (by simp)
 constructor
 ·by_cases e:30 < p.comps.length
  ·rw[if_pos e] at a;cases a
  ·omega
 ·by_cases e:p.comps.length=0
  ·rw[if_pos e] at b;cases b
  ·omega
theorem names_nd {l:List Cmp} (h:∀ j,j < l.length->cpAt l j=0):(l.map Cmp.name).Nodup:=by
 rw[List.Nodup,List.pairwise_iff_getElem]
 intro i j hi hj hij
 have hj':j < l.length:=by simpa using hj
 have h1:=firstI_ne (h j hj') (if (l.take j).any (fun d=>decide (d.name=(l.getD j zeroP).name))=true then 6 else 0) (by simp)
 by_cases e:(l.take j).any (fun d=>decide (d.name=(l.getD j zeroP).name))=true
 ·rw[if_pos e] at h1;cases h1
 ·rw[Bool.not_eq_true,List.any_eq_false] at e
  have hm:l[i]∈l.take j:=by
   rw[List.mem_iff_getElem]
   exact⟨i,by rw[List.length_take];omega,by rw[List.getElem_take]⟩
  have h2:=e _ hm
  rw[getD_cm hj',decide_eq_true_eq] at h2
  simpa using h2
theorem RdC.take {w:World} {A:Option Addr} {l:List Cmp} (h:RdC w A l) (k:Nat):RdC w A (l.take k):=fun hn=>by
 obtain⟨b,o,e,hX⟩:=h (fun e=>hn (by rw[e];simp))
 exact⟨b,o,e,fun q hq=>by
  have hq':q < l.length:=by rw[List.length_take] at hq;omega
  have:=hX q hq'
  rwa [List.getElem_take]⟩
set_option maxHeartbeats 32000000 in
set_option maxRecDepth 100000 in
theorem PCheck_any (p:Pkg) (A:Option Addr) (c:Nat) (A2:Option Addr) (c2:Nat) (A3:Option Addr) (c3:Nat) (A4:Option Addr) (c4:Nat) (w:World) (hg:GoodN w) (hp:PkIn w p A c A2 c2 A3 c3 A4 c4) (hs:SmallP p) :
 Calls Tryz.prog 48 #[pkV p A c A2 c2 A3 c3 A4 c4] w fun e w'=>e=.returned (.int .i64 (pkErr p))∧Ext w w':=by
 have CH:=Hy (fun W (h:Ext w W)=>headFault_any p A c A2 c2 A3 c3 A4 c4 W (hg.toGood.ext h) (hp.ext h) hs)
 have CC:=Hy (fun W (h:Ext w W) k (hk:k < p.comps.length) kk n x B2 m d2 B3 d3 B4 d4 B5 d5 (hc:CmIn W p.comps[k] kk n x B2 m d2 B3 d3 B4 d4 B5 d5)=>componentFault_any p.comps[k] (p.comps.take k) kk n x B2 m d2 B3 d3 B4 d4 B5 d5 A3 k c3 W (hg.ext h) hc ((hp.comps.ext h).take k) (by rw[List.length_take];omega) (by have:=hs.clen;omega) (hs.comps _ (List.getElem_mem hk)))
 have CW:=Hy (fun h30 hnd W (h:Ext w W)=>webFault_any p A c A2 c2 A3 c3 A4 c4 W (hp.comps.ext h) h30 (fun c hc=>(hs.comps c hc).nlen) hnd)
 have CP:=Hy (fun h30 hnd W (h:Ext w W)=>placesFault_any p A c A2 c2 A3 c3 A4 c4 W (hp.ext h) h30 (fun c hc=>(hs.comps c hc).nlen) hnd (fun c hc=>(hs.comps c hc).items) hs.all)
 have CM:=Hy (fun W (h:Ext w W)=>movesFault_any p A c A2 c2 A3 c3 A4 c4 W (hg.toGood.ext h) (hp.ext h) hs)
 have HOK:=Hy (head_ok (p:=p))
 have HND:=Hy (names_nd (l:=p.comps))
 have HAT:=Hy (show ∀ k (hk:k < p.comps.length),cpAt p.comps k=cpErr (p.comps.take k) p.comps[k] from fun k hk=>by rw[cpAt_eq,getD_cm hk])
 have HR:=Hy hp.comps
 have hcap:=hp.cap.2.2.1
 have hcl:=hs.clen
 obtain⟨E,hE⟩:∃ E,E=pkErr p:=⟨_,rfl⟩
 rw[<-hE]
 have HE:=Hy (show E=firstI [headErr p,firstN p.comps.length (cpAt p.comps),firstN p.comps.length (webAt p.comps),placesErr p.comps,firstI [pmvErr p.moves,(if 524288 < bytesOf (itemsL p.comps) then 4 else 0)]] from by
  rw[hE]
  unfold pkErr
  have e:∀ a b c d e f:Int,firstI [a,b,c,d,e,f]=firstI [a,b,c,d,firstI [e,f]]:=fun a b c d e f=>by
   simp only[firstI]
   by_cases h1:a=0<;>by_cases h2:b=0<;>by_cases h3:c=0<;>by_cases h4:d=0<;>by_cases h5:e=0<;>by_cases h6:f=0<;>simp[h1,h2,h3,h4,h5,h6]
  exact e _ _ _ _ _ _)
 clear hg hp hs hE
 generalize firstI [pmvErr p.moves,(if 524288 < bytesOf (itemsL p.comps) then 4 else 0)]=MV at *
 generalize placesErr p.comps=PL at *
 generalize firstN p.comps.length (webAt p.comps)=WB at *
 have HBD:=Hy (show headErr p=0->∀ k,k < p.comps.length->(∀ j,j < k->cpAt p.comps j=0)->¬ cpAt p.comps k=0->E=cpAt p.comps k from fun h k hk h0 h1=>by
  rw[HE.out,firstN_at hk h0 h1];simp[firstI,h,h1])
 have HZ:=Hy (show headErr p=0->(∀ j,j < p.comps.length->cpAt p.comps j=0)->E=firstI [WB,PL,MV] from fun h h0=>by
  rw[HE.out,firstN_zero h0];simp[firstI,h])
 have HH:=Hy (show ¬ headErr p=0->E=headErr p from fun h=>by rw[HE.out];simp[firstI,h])
 clear HE
 generalize headErr p=H at *
 obtain⟨pn,⟨v1,v2,v3,va⟩,pt,pe,pb,l,pm⟩:=p
 dsimp only[pkV] at *
 generalize pe.length=l1 at *
 generalize pb.length=l2 at *
 generalize pm.length=l4 at *
 generalize hn:l.length=n at CH CW CP CM HBD HZ HOK HND hcap hcl ⊢
 have HN:=Hy hn
 have b0:=Blk.new w 76 #[.string pn,.int .i64 v1,.int .i64 v2,.int .i64 v3,.string va,.string pt,.slice A l1 c,.slice A2 l2 c2,.slice A3 n c3,.slice A4 l4 c4]
 have hx0:Ext w (w.alloc (.cells #[.string pn,.int .i64 v1,.int .i64 v2,.int .i64 v3,.string va,.string pt,.slice A l1 c,.slice A2 l2 c2,.slice A3 n c3,.slice A4 l4 c4] 76)):=(Ext.refl w).alloc _
 generalize hW0:w.alloc (.cells #[.string pn,.int .i64 v1,.int .i64 v2,.int .i64 v3,.string va,.string pt,.slice A l1 c,.slice A2 l2 c2,.slice A3 n c3,.slice A4 l4 c4] 76)=W0 at *
 have HW0:=Hy hW0
 have e0:=b0.cell;have l0:=b0.lt
 clear hW0 hn
 go_enter Tryz.func48,Tryz.ntmps48
 go_wp2_with fail
 rw[HW0.out]
 refine (CH.out _ hx0).mono ?_
 rintro e w1 ⟨rfl,hx1⟩
 have hx01:=hx0.trans hx1
 have b1:=b0.ext hx1
 have e1:=b1.cell;have l1':=b1.lt
 clear e0 l0 b0
 by_cases hH:H=0
 rotate_left
 ·have HEE:=Hy (HH.out hH)
  have hne:(H != 0)=true:=by rw[bne_iff_ne];exact hH
  clear hH
  go_wp2
  go_ret
  exact⟨ret_int HEE.out.symm,hx01⟩
 have HOK2:=Hy (HOK.out hH)
 have HBX:=Hy (HBD.out hH)
 have HZX:=Hy (HZ.out hH)
 clear HBD HZ HOK HH CH
 subst hH
 go_wp2
 go_loopw [18] (fun i wr=>∃ k:Nat,k<=n∧i=.int .i64 k∧Hid (∀ j,j < k->cpAt l j=0)∧Ext w1 wr) (fun i _=>n - (intOf i).toNat)
 case atStart=>exact⟨0,Nat.zero_le _,rfl,Hy (fun j h=>absurd h (Nat.not_lt_zero _)),Ext.refl _⟩
 case round =>
  obtain⟨k,hk,rfl,H0,hxr⟩:=hrel
  obtain⟨wo,rfl⟩:∃ wo:World,wo=wr:=⟨_,rfl⟩
  have hxw:=hx01.trans hxr
  have b2:=b1.ext hxr
  clear e1 l1'
  by_cases hlt:k < n
  ·have hk1:k < l.length:=by rw[HN.out];exact hlt
   obtain⟨b,o,rfl,hX⟩:=(HR.out.ext hxw) (fun e=>by rw[e] at hk1;exact absurd hk1 (Nat.not_lt_zero _))
   obtain⟨k0,n0,x0,A5,m5,c5,A6,c6,A7,c7,A8,c8,hrow⟩:=hX k hk1
   have LD:=load_Cm hrow
   have HHS:=Hy hrow.has
   have CK:=Hy (fun W (h:Ext wo W)=>CC.out W (hxw.trans h) k hk1 k0 n0 x0 A5 m5 c5 A6 c6 A7 c7 A8 c8 (HHS.out.ext h))
   have HV:=Hy (HAT.out k hk1)
   have HB:=Hy (HBX.out k hlt H0.out)
   have HNX:=Hy (show cpAt l k=0->∀ j,j < k+1->cpAt l j=0 from firstN_next H0.out)
   clear hX hrow HHS
   rw[<-HV.out] at CK
   generalize cpAt l k=Z at *
   generalize l[k]=q at *
   obtain⟨qn,qt,qd,qa,qw,qe,qi,qs⟩:=q
   dsimp only[cmV] at *
   generalize qe.length=l6 at *
   generalize qi.length=l7 at *
   generalize qs.length=l8 at *
   have bc:=Blk.new wo 82 #[.string qn,.string qt,.bool qd,.bool qa,.int .i64 k0,.string n0,.string x0,.slice A5 m5 c5,.slice A6 l6 c6,.slice A7 l7 c7,.slice A8 l8 c8]
   have hxa:Ext wo (wo.alloc (.cells #[.string qn,.string qt,.bool qd,.bool qa,.int .i64 k0,.string n0,.string x0,.slice A5 m5 c5,.slice A6 l6 c6,.slice A7 l7 c7,.slice A8 l8 c8] 82)):=(Ext.refl wo).alloc _
   have b2a:=b2.ext hxa
   generalize hW1:wo.alloc (.cells #[.string qn,.string qt,.bool qd,.bool qa,.int .i64 k0,.string n0,.string x0,.slice A5 m5 c5,.slice A6 l6 c6,.slice A7 l7 c7,.slice A8 l8 c8] 82)=W1 at *
   have HW1:=Hy hW1
   clear hW1
   have e1:=bc.cell;have l1':=bc.lt;have e2:=b2a.cell;have l2':=b2a.lt
   have hkc:k<=c3:=by omega
   go_wp2_with (refine wpList_load_at rfl _ _ rfl _ rfl _ LD ?_)
   rw[HW1.out]
   clear LD
   refine wp_region_ext (by kernel_rfl) (by kernel_rfl) ?_
   repeat (first|go_big_quiet_skip|(refine wpQuiet_step (fun K hK=>?_);go_simp;first|(refine hK _ ?_;clear hK K)|(apply Exists.intro;refine⟨fun wq hwq=>?_,hK _ ?_⟩;(obtain⟨hqc,hqf⟩:=hwq.cells;have hqs:=hwq.size;(try go_simp);first|rfl|((first|rw[if_neg (by omega)]|rw[if_pos (by omega)]);(try go_simp);rfl)|((go_at_call 120;exact (CK.out _ (hxa.trans hwq)).mono (fun e w'' h=>⟨h.1,hwq.trans h.2⟩))));clear hK K)))
   refine wpQuiet_nil ?_
   intro wN hxN
   obtain⟨hcN,hfN⟩:=hxN.cells
   have hsN:=hxN.size
   clear e1 l1' e2 l2' hcN hfN hsN
   by_cases hZ:Z=0
   ·have HO:=Hy (HNX.out hZ)
    subst hZ
    go_wp2
    go_roundw
    case rel=>exact⟨k+1,by omega,by go_num,HO,hxr.trans (hxa.trans hxN)⟩
    case measure=>simp[intOf];omega
   ·have HEE:=Hy (HB.out hZ)
    have hne:(Z != 0)=true:=by rw[bne_iff_ne];exact hZ
    clear hZ
    go_wp2
    go_ret
    exact⟨ret_int HEE.out.symm,hxw.trans (hxa.trans hxN)⟩
  ·obtain rfl:k=n:=by omega
   have HEW:=Hy (HZX.out H0.out)
   have HND2:=Hy (HND.out H0.out)
   have CW2:=Hy (CW.out HOK2.out.1 HND2.out)
   have CP2:=Hy (CP.out HOK2.out.1 HND2.out)
   have b3:=Blk.new wo 78 #[.func (.func 121) #[] #[],.func (.func 122) #[] #[],.func (.func 123) #[] #[]]
   clear HZX HBX HND CW CP CC H0
   have l3:=b2.lt
   have hx5:Ext wo (wo.alloc (.cells #[.func (.func 121) #[] #[],.func (.func 122) #[] #[],.func (.func 123) #[] #[]] 78)):=(Ext.refl wo).alloc _
   have e2:=b2.cell
   go_wp2
   clear e2 l3
   go_loopw [35] (fun i wr=>(i=.int .i64 0∨(i=.int .i64 1∧Hid (WB=0))∨(i=.int .i64 2∧Hid (WB=0)∧Hid (PL=0))∨(i=.int .i64 3∧Hid (WB=0)∧Hid (PL=0)∧Hid (MV=0)))∧Ext (wo.alloc (.cells #[.func (.func 121) #[] #[],.func (.func 122) #[] #[],.func (.func 123) #[] #[]] 78)) wr) (fun i _=>3 - (intOf i).toNat)
   case atStart=>exact⟨.inl rfl,Ext.refl _⟩
   case round =>
    obtain⟨hi,hxs⟩:=hrel
    obtain⟨ws,rfl⟩:∃ ws:World,ws=wr:=⟨_,rfl⟩
    have hxs':=hxw.trans (hx5.trans hxs)
    have e3:=(b3.ext hxs).cell;have l3:=(b3.ext hxs).lt;have e2:=(b2.ext (hx5.trans hxs)).cell;have l2':=(b2.ext (hx5.trans hxs)).lt
    rcases hi with rfl|⟨rfl,H0⟩|⟨rfl,H0,H1⟩|⟨rfl,H0,H1,H2⟩
    ·skip
     by_cases hZ:WB=0
     ·have HZ0:=Hy hZ
      go_wp2_with fail
      refine (CW2.out _ hxs').mono ?_
      rintro e w6 ⟨rfl,hx6⟩
      rw[hZ]
      clear hZ
      go_wp2
      go_roundw
      case rel=>exact⟨.inr (.inl ⟨rfl,HZ0⟩),hxs.trans hx6⟩
      case measure=>simp[intOf]
     ·have HEE:=Hy (show E=WB from by rw[HEW.out];simp[firstI,hZ];try (intro h;exact absurd h hZ))
      have hne:(WB != 0)=true:=by rw[bne_iff_ne];exact hZ
      clear hZ
      go_wp2_with fail
      refine (CW2.out _ hxs').mono ?_
      rintro e w6 ⟨rfl,hx6⟩
      go_wp2
      go_ret
      exact⟨ret_int HEE.out.symm,hxs'.trans hx6⟩
    ·skip
     by_cases hZ:PL=0
     ·have HZ1:=Hy hZ
      go_wp2_with fail
      refine (CP2.out _ hxs').mono ?_
      rintro e w6 ⟨rfl,hx6⟩
      rw[hZ]
      clear hZ
      go_wp2
      go_roundw
      case rel=>exact⟨.inr (.inr (.inl ⟨rfl,H0,HZ1⟩)),hxs.trans hx6⟩
      case measure=>simp[intOf]
     ·have HEE:=Hy (show E=PL from by rw[HEW.out];simp[firstI,hZ,H0.out];try (intro h;exact absurd h hZ))
      have hne:(PL != 0)=true:=by rw[bne_iff_ne];exact hZ
      clear hZ
      go_wp2_with fail
      refine (CP2.out _ hxs').mono ?_
      rintro e w6 ⟨rfl,hx6⟩
      go_wp2
      go_ret
      exact⟨ret_int HEE.out.symm,hxs'.trans hx6⟩
    ·skip
     by_cases hZ:MV=0
     ·have HZ2:=Hy hZ
      go_wp2_with fail
      refine (CM.out _ hxs').mono ?_
      rintro e w6 ⟨rfl,hx6⟩
      rw[hZ]
      clear hZ
      go_wp2
      go_roundw
      case rel=>exact⟨.inr (.inr (.inr ⟨rfl,H0,H1,HZ2⟩)),hxs.trans hx6⟩
      case measure=>simp[intOf]
     ·have HEE:=Hy (show E=MV from by rw[HEW.out];simp[firstI,H0.out,H1.out];try (intro h;exact h.symm))
      have hne:(MV != 0)=true:=by rw[bne_iff_ne];exact hZ
      clear hZ
      go_wp2_with fail
      refine (CM.out _ hxs').mono ?_
      rintro e w6 ⟨rfl,hx6⟩
      go_wp2
      go_ret
      exact⟨ret_int HEE.out.symm,hxs'.trans hx6⟩
    ·have HEE:=Hy (show E=0 from by rw[HEW.out];simp[firstI,H0.out,H1.out,H2.out])
     go_wp2
     go_ret
     exact⟨ret_int HEE.out.symm,hxs'⟩
end
end Go.Proofs.YtmpccllnpcbgcaaGreatDoor
