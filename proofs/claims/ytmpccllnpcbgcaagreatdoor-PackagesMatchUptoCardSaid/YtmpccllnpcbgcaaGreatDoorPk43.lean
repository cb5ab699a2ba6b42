/- Contracts of pack.Allowed, Defaults. -/
import Derived.Test.YtmpccllnpcbgcaaGreatDoorPk40
import Derived.Test.YtmpccllnpcbgcaaGreatDoorPk37
namespace Go.Proofs.YtmpccllnpcbgcaaGreatDoor
open Go.RowKit
noncomputable def alwL (p:Pkg) (lf ls:List Se):List ByteArray:=if f2 (pkErr p) (leErr lf ls)=0 then markL p.comps (alwV p.comps (hldV p.comps lf ls)) else []
noncomputable def dflS (l:List Cmp) (R:Nat->Bool):Nat->Bool:=fun i=>alwV l R i&&((l.getD i zeroP).dfl||(l.getD i zeroP).alw)
noncomputable def dflV (l:List Cmp) (R:Nat->Bool):Nat->Bool:=fun i=>hasB l (markK l (dflS l R) l.length) (l.getD i zeroP).name
noncomputable def dflL (p:Pkg) (lf ls:List Se):List ByteArray:=if f2 (pkErr p) (leErr lf ls)=0 then markL p.comps (dflV p.comps (hldV p.comps lf ls)) else []
set_option maxHeartbeats 16000000 in
set_option maxRecDepth 100000 in
theorem Allowed_any (p:Pkg) (A:Option Addr) (c:Nat) (A2:Option Addr) (c2:Nat) (A3:Option Addr) (c3:Nat) (A4:Option Addr) (c4:Nat) (Af As:Option Addr) (nf nS cf cS:Nat) (lf ls:List Se) (w:World) (hg:GoodN w) (hp:PkIn w p A c A2 c2 A3 c3 A4 c4) (hs:SmallP p)
 (hn1:lf.length=nf) (hr1:RdE w Af lf) (hs1:SmallE lf) (hl1:nf<=2097152) (hn2:ls.length=nS) (hr2:RdE w As ls) (hs2:SmallE ls) (hl2:nS<=2097152) :
 Calls Tryz.prog 54 #[pkV p A c A2 c2 A3 c3 A4 c4,.slice Af nf cf,.slice As nS cS] w fun e w'=>∃ A' cc,e=.returned (.tuple #[.slice A' (alwL p lf ls).length cc,.int .i64 (f2 (pkErr p) (leErr lf ls))])∧(alwL p lf ls).length<=cc∧RdX w' A' (alwL p lf ls)∧Ext w w':=by
 have CA:=Hy (fun W (h:Ext w W)=>allowed_any p A c A2 c2 A3 c3 A4 c4 Af As nf nS cf cS lf ls W (hg.ext h) (hp.ext h) hs hn1 (hr1.ext h) hs1 hl1 hn2 (hr2.ext h) hs2 hl2)
 have CMK:=Hy (fun W (h:Ext w W) g hb=>marked_any p A c A2 c2 A3 c3 A4 c4 (alwV p.comps (hldV p.comps lf ls)) g p.comps.length W (hp.comps.ext h) hs.clen hb)
 have HL0:=Hy (show ¬ f2 (pkErr p) (leErr lf ls)=0->alwL p lf ls=[] from fun h=>if_neg h)
 have HL1:=Hy (show f2 (pkErr p) (leErr lf ls)=0->alwL p lf ls=markL p.comps (alwV p.comps (hldV p.comps lf ls)) from fun h=>if_pos h)
 clear hg hp hs hr1 hs1 hr2 hs2
 generalize f2 (pkErr p) (leErr lf ls)=E at *
 generalize alwL p lf ls=L at *
 generalize markL p.comps (alwV p.comps (hldV p.comps lf ls))=ML at *
 generalize alwV p.comps (hldV p.comps lf ls)=AV at *
 obtain⟨pn,⟨v1,v2,v3,va⟩,pt,pe,pb,l,pm⟩:=p
 dsimp only[pkV] at *
 generalize pe.length=l1 at *
 generalize pb.length=l2 at *
 generalize pm.length=l4 at *
 generalize l.length=n at *
 have b0:=Blk.new w 76 #[.string pn,.int .i64 v1,.int .i64 v2,.int .i64 v3,.string va,.string pt,.slice A l1 c,.slice A2 l2 c2,.slice A3 n c3,.slice A4 l4 c4]
 have hx0:Ext w (w.alloc (.cells #[.string pn,.int .i64 v1,.int .i64 v2,.int .i64 v3,.string va,.string pt,.slice A l1 c,.slice A2 l2 c2,.slice A3 n c3,.slice A4 l4 c4] 76)):=(Ext.refl w).alloc _
 generalize hW0:w.alloc (.cells #[.string pn,.int .i64 v1,.int .i64 v2,.int .i64 v3,.string va,.string pt,.slice A l1 c,.slice A2 l2 c2,.slice A3 n c3,.slice A4 l4 c4] 76)=W0 at *
 have HW0:=Hy hW0
 have e0:=b0.cell;have l0:=b0.lt
 clear hW0
 go_enter Tryz.func54,Tryz.ntmps54
 go_wp2_with fail
 rw[HW0.out]
 refine (CA.out _ hx0).mono ?_
 rintro e w1 ⟨h,hx1⟩
 have hx01:=hx0.trans hx1
 have b1:=b0.ext hx1
 have e1:=b1.cell;have l1':=b1.lt
 clear e0 l0 b0 CA
 rcases h with ⟨hE,rfl⟩|⟨hE,g,rfl,hB⟩
 ·have HEE:=Hy (HL0.out hE)
  have hne:(E != 0)=true:=by rw[bne_iff_ne];exact hE
  clear hE
  go_wp2
  go_ret2
  exact⟨none,0,by rw[HEE.out]<;>rfl,by rw[HEE.out];exact Nat.le_refl _,by rw[HEE.out];exact fun h=>absurd rfl h,hx01⟩
 ·have HEE:=Hy (HL1.out hE)
  have HB:=Hy hB
  clear hB
  subst hE
  go_wp2_with fail
  refine (CMK.out _ hx01 g HB.out).mono ?_
  rintro e w2 ⟨A',cc,rfl,hc,hrd,hx2⟩
  go_wp2
  go_ret2
  exact⟨A',cc,by rw[HEE.out]<;>rfl,by rw[HEE.out];exact hc,by rw[HEE.out];exact hrd,hx01.trans hx2⟩
set_option maxHeartbeats 16000000 in
set_option maxRecDepth 100000 in
theorem Defaults_any (p:Pkg) (A:Option Addr) (c:Nat) (A2:Option Addr) (c2:Nat) (A3:Option Addr) (c3:Nat) (A4:Option Addr) (c4:Nat) (Af As:Option Addr) (nf nS cf cS:Nat) (lf ls:List Se) (w:World) (hg:GoodN w) (hp:PkIn w p A c A2 c2 A3 c3 A4 c4) (hs:SmallP p)
 (hn1:lf.length=nf) (hr1:RdE w Af lf) (hs1:SmallE lf) (hl1:nf<=2097152) (hn2:ls.length=nS) (hr2:RdE w As ls) (hs2:SmallE ls) (hl2:nS<=2097152) :
 Calls Tryz.prog 55 #[pkV p A c A2 c2 A3 c3 A4 c4,.slice Af nf cf,.slice As nS cS] w fun e w'=>∃ A' cc,e=.returned (.tuple #[.slice A' (dflL p lf ls).length cc,.int .i64 (f2 (pkErr p) (leErr lf ls))])∧(dflL p lf ls).length<=cc∧RdX w' A' (dflL p lf ls)∧Ext w w':=by
 have CA:=Hy (fun W (h:Ext w W)=>allowed_any p A c A2 c2 A3 c3 A4 c4 Af As nf nS cf cS lf ls W (hg.ext h) (hp.ext h) hs hn1 (hr1.ext h) hs1 hl1 hn2 (hr2.ext h) hs2 hl2)
 have CMK:=Hy (fun W (h:Ext w W) g hb=>marked_any p A c A2 c2 A3 c3 A4 c4 (dflV p.comps (hldV p.comps lf ls)) g p.comps.length W (hp.comps.ext h) hs.clen hb)
 have HRE:=Hy (fun (h30:p.comps.length<=30) hnd W (h:Ext w W) ns An nn cn (hnn:ns.length=nn) (hrn:RdX W An ns) (hln:nn<=2097152)=>reach_any p A c A2 c2 A3 c3 A4 c4 ns An nn cn W (hp.comps.ext h) h30 (fun c hc=>(hs.comps c hc).nlen) hnd hnn hrn hln)
 have HOK:=Hy (fun h=>pk_ok (p:=p) (f2_eq0 (a:=pkErr p) (b:=leErr lf ls) h).1)
 have HR:=Hy hp.comps
 have hcl:=hs.clen
 have HL0:=Hy (show ¬ f2 (pkErr p) (leErr lf ls)=0->dflL p lf ls=[] from fun h=>if_neg h)
 have HL1:=Hy (show f2 (pkErr p) (leErr lf ls)=0->dflL p lf ls=markL p.comps (dflV p.comps (hldV p.comps lf ls)) from fun h=>if_pos h)
 have HMS:=Hy (fun k=>markK_succ (l:=p.comps) (V:=dflS p.comps (hldV p.comps lf ls)) (k:=k))
 have HML:=Hy (markK_len p.comps (dflS p.comps (hldV p.comps lf ls)))
 have HDS:=Hy (fun k (hk:k < p.comps.length)=>show dflS p.comps (hldV p.comps lf ls) k=(alwV p.comps (hldV p.comps lf ls) k&&(p.comps[k].dfl||p.comps[k].alw)) from by unfold dflS;rw[getD_cm hk])
 have HDV:=Hy (show dflV p.comps (hldV p.comps lf ls)=fun i=>hasB p.comps (markK p.comps (dflS p.comps (hldV p.comps lf ls)) p.comps.length) (p.comps.getD i zeroP).name from rfl)
 clear hg hp hs hr1 hs1 hr2 hs2
 generalize f2 (pkErr p) (leErr lf ls)=E at *
 generalize dflL p lf ls=L at *
 generalize markL p.comps (dflV p.comps (hldV p.comps lf ls))=ML at *
 generalize dflV p.comps (hldV p.comps lf ls)=DV at *
 generalize dflS p.comps (hldV p.comps lf ls)=DS at *
 generalize alwV p.comps (hldV p.comps lf ls)=AV at *
 obtain⟨pn,⟨v1,v2,v3,va⟩,pt,pe,pb,l,pm⟩:=p
 dsimp only[pkV] at *
 generalize pe.length=l1 at *
 generalize pb.length=l2 at *
 generalize pm.length=l4 at *
 generalize hn:l.length=n at CA CMK HRE HOK HDV hcl ⊢
 have HN:=Hy hn
 clear hn
 have b0:=Blk.new w 76 #[.string pn,.int .i64 v1,.int .i64 v2,.int .i64 v3,.string va,.string pt,.slice A l1 c,.slice A2 l2 c2,.slice A3 n c3,.slice A4 l4 c4]
 have hx0:Ext w (w.alloc (.cells #[.string pn,.int .i64 v1,.int .i64 v2,.int .i64 v3,.string va,.string pt,.slice A l1 c,.slice A2 l2 c2,.slice A3 n c3,.slice A4 l4 c4] 76)):=(Ext.refl w).alloc _
 generalize hW0:w.alloc (.cells #[.string pn,.int .i64 v1,.int .i64 v2,.int .i64 v3,.string va,.string pt,.slice A l1 c,.slice A2 l2 c2,.slice A3 n c3,.slice A4 l4 c4] 76)=W0 at *
 have HW0:=Hy hW0
 have e0:=b0.cell;have l0:=b0.lt
 clear hW0
 go_enter Tryz.func55,Tryz.ntmps55
 go_wp2_with fail
 rw[HW0.out]
 refine (CA.out _ hx0).mono ?_
 rintro e w1 ⟨h,hx1⟩
 have hx01:=hx0.trans hx1
 have b1:=b0.ext hx1
 have e1:=b1.cell;have l1':=b1.lt
 clear e0 l0 b0 CA
 rcases h with ⟨hE,rfl⟩|⟨hE,g,rfl,hB⟩
 ·have HEE:=Hy (HL0.out hE)
  have hne:(E != 0)=true:=by rw[bne_iff_ne];exact hE
  clear hE
  go_wp2
  go_ret2
  exact⟨none,0,by rw[HEE.out]<;>rfl,by rw[HEE.out];exact Nat.le_refl _,by rw[HEE.out];exact fun h=>absurd rfl h,hx01⟩
 have HEE:=Hy (HL1.out hE)
 have HK:=Hy (HOK.out hE)
 have HB:=Hy hB
 have hgl:=hB.lt
 have HREK:=Hy (HRE.out HK.out.1 HK.out.2)
 clear hB HOK HL0 HL1 HRE
 subst hE
 go_wp2
 clear e1 l1'
 go_loopw [10,26] (fun s i wr=>∃ k:Nat,k<=n∧i=.int .i64 k∧Hid (wr.ownsRow w1.heap.size 9 1 s (markK l DS k).length ((markK l DS k).map Value.string))∧Ext w1 wr) (fun s i _=>n - (intOf i).toNat)
 case atStart=>exact⟨0,Nat.zero_le _,rfl,Hy (World.ownsRow_nil _ _ _ _),Ext.refl _⟩
 case round =>
  obtain⟨k,hk,rfl,HO,hxr⟩:=hrel
  obtain⟨wo,rfl⟩:∃ wo:World,wo=wr:=⟨_,rfl⟩
  have hBs:=hxr.size
  have hxw:=hx01.trans hxr
  have hml:=HML.out k
  by_cases hlt:k < n
  ·have hk1:k < l.length:=by rw[HN.out];exact hlt
   obtain⟨b,o,rfl,hX⟩:=(HR.out.ext hxw) (fun e=>by rw[e] at hk1;exact absurd hk1 (Nat.not_lt_zero _))
   obtain⟨k0,n0,x0,A5,m5,c5,A6,c6,A7,c7,A8,c8,hrow⟩:=hX k hk1
   have LD:=load_Cm hrow
   have HT:=Hy (HMS.out k hk1)
   have HD:=Hy (HDS.out k hk1)
   have hcv:=((HB.out.ext hxr).cell k).trans (boolsA_get hlt)
   have hgo:=lt_of_cell hcv
   clear hX hrow
   generalize l[k]=q at *
   obtain⟨qn,qt,qd,qa,qw,qe,qi,qs⟩:=q
   dsimp only[cmV] at *
   generalize qe.length=l6 at *
   generalize qi.length=l7 at *
   generalize qs.length=l8 at *
   generalize hMK:markK l DS k=MK at *
   have hxa:Ext wo (wo.alloc (.cells #[.string qn,.string qt,.bool qd,.bool qa,.int .i64 k0,.string n0,.string x0,.slice A5 m5 c5,.slice A6 l6 c6,.slice A7 l7 c7,.slice A8 l8 c8] 82)):=(Ext.refl wo).alloc _
   have bc:=Blk.new wo 82 #[.string qn,.string qt,.bool qd,.bool qa,.int .i64 k0,.string n0,.string x0,.slice A5 m5 c5,.slice A6 l6 c6,.slice A7 l7 c7,.slice A8 l8 c8]
   have e1:=bc.cell;have l1':=bc.lt
   generalize AV k=av at *
   generalize DS k=dv at *
   cases dv with
   | false =>
     have hD:=HD.out
     have HO2:=Hy (show (wo.alloc (.cells #[.string qn,.string qt,.bool qd,.bool qa,.int .i64 k0,.string n0,.string x0,.slice A5 m5 c5,.slice A6 l6 c6,.slice A7 l7 c7,.slice A8 l8 c8] 82)).ownsRow w1.heap.size 9 1 _ (markK l DS (k+1)).length ((markK l DS (k+1)).map Value.string) from by
      rw[HT.out]
      simpa using own_ext HO.out hxa)
     clear HD
     cases av
     ·clear hD
      go_wp2_with (refine wpList_load_at rfl _ _ rfl _ rfl _ LD ?_)
      go_roundw
      case rel=>exact⟨k+1,by omega,by go_num,HO2,hxr.trans hxa⟩
      case measure=>simp[intOf];omega
     ·cases qd
      ·cases qa
       ·clear hD
        go_wp2_with (refine wpList_load_at rfl _ _ rfl _ rfl _ LD ?_)
        go_roundw
        case rel=>exact⟨k+1,by omega,by go_num,HO2,hxr.trans hxa⟩
        case measure=>simp[intOf];omega
       ·cases hD
      ·cases hD
   | true =>
     have hD:=HD.out
     have hown1:=own_ext HO.out hxa
     have hB1:w1.heap.size<=(wo.alloc (.cells #[.string qn,.string qt,.bool qd,.bool qa,.int .i64 k0,.string n0,.string x0,.slice A5 m5 c5,.slice A6 l6 c6,.slice A7 l7 c7,.slice A8 l8 c8] 82)).heap.size:=Nat.le_trans hBs hxa.size
     clear HD
     cases av
     ·cases hD
     ·have hor:qd=true∨(qd=false∧qa=true):=or_ways hD
      clear hD
      rcases hor with rfl|⟨rfl,rfl⟩
      all_goals
       go_wp2_with (first|(refine wpList_load_at rfl _ _ rfl _ rfl _ LD ?_)|(at_builtin;refine wpList_app1g _ _ _ rfl _ _ 77 rfl (.string ⟨#[]⟩) 1 16 Tryz.underlying77 info_string rfl (by decide) (by decide) w1.heap.size _ MK.length _ rfl hown1 _ _ rfl (by simp) rfl (by simp[Value.oneCell']) (by omega) hB1 ?_;intro v' w' hown' hgrow hblk))
       have HO2:=Hy (show w'.ownsRow w1.heap.size 9 1 v' (markK l DS (k+1)).length ((markK l DS (k+1)).map Value.string) from by
        rw[HT.out]
        simpa using hown')
       go_roundw
       case rel=>exact⟨k+1,by omega,by go_num,HO2,hgrow _ (hxr.trans hxa) (Nat.le_refl _)⟩
       case measure=>simp[intOf];omega
  ·obtain rfl:n=k:=by omega
   obtain⟨AL,cL,rfl,hcL,hrdL⟩:=RdX.own HO.out rfl
   have b5:=b1.ext hxr
   have d0:wo.cell? ⟨w.heap.size,0,none⟩=some (.string pn):=b5.cell 0
   have d1:wo.cell? ⟨w.heap.size,1,none⟩=some (.int .i64 v1):=b5.cell 1
   have d2:wo.cell? ⟨w.heap.size,2,none⟩=some (.int .i64 v2):=b5.cell 2
   have d3:wo.cell? ⟨w.heap.size,3,none⟩=some (.int .i64 v3):=b5.cell 3
   have d4:wo.cell? ⟨w.heap.size,4,none⟩=some (.string va):=b5.cell 4
   have d5:wo.cell? ⟨w.heap.size,5,none⟩=some (.string pt):=b5.cell 5
   have d6:wo.cell? ⟨w.heap.size,6,none⟩=some (.slice A l1 c):=b5.cell 6
   have d7:wo.cell? ⟨w.heap.size,7,none⟩=some (.slice A2 l2 c2):=b5.cell 7
   have d8:wo.cell? ⟨w.heap.size,8,none⟩=some (.slice A3 n c3):=b5.cell 8
   have d9:wo.cell? ⟨w.heap.size,9,none⟩=some (.slice A4 l4 c4):=b5.cell 9
   have dl:=b5.lt
   have CC:=Hy (fun W (h:Ext wo W)=>(HREK.out W (hxw.trans h) (markK l DS n) AL (markK l DS n).length cL rfl (hrdL.ext h) (by omega)).mono (fun e w' hh=>(show ∃ g,e=.returned (.slice (some ⟨g,0,none⟩) n n)∧Hid (Blk w' g 4 (boolsA n DV))∧Ext W w'∧Ext wo w' from by
    obtain⟨g,h1,_,h2,h3⟩:=hh
    rw[<-HDV.out] at h2
    exact⟨g,h1,h2,h3,h.trans h3⟩)))
   have CM:=Hy (fun W (h:Ext wo W) g (hb:Hid (Blk W g 4 (boolsA n DV)))=>(CMK.out W (hxw.trans h) g hb.out).mono (fun e w' hh=>(show ∃ A' cc,e=.returned (.slice A' ML.length cc)∧Hid (ML.length<=cc∧RdX w' A' ML)∧Ext W w'∧Ext wo w' from by
    obtain⟨A',cc,h1,h2,h3,h4⟩:=hh
    exact⟨A',cc,h1,⟨h2,h3⟩,h4,h.trans h4⟩)))
   have HXW:=Hy hxw
   generalize (markK l DS n).length=nL at *
   clear hxw hxr hx01 hx0 hx1 b1 b5 HB hgl CMK HREK hrdL HO
   go_wp2
   go_region_held3 (fun w'=>w'.cell? ⟨w.heap.size,0,none⟩=some (.string pn)∧w'.cell? ⟨w.heap.size,1,none⟩=some (.int .i64 v1)∧w'.cell? ⟨w.heap.size,2,none⟩=some (.int .i64 v2)∧w'.cell? ⟨w.heap.size,3,none⟩=some (.int .i64 v3)∧w'.cell? ⟨w.heap.size,4,none⟩=some (.string va)∧w'.cell? ⟨w.heap.size,5,none⟩=some (.string pt)∧w'.cell? ⟨w.heap.size,6,none⟩=some (.slice A l1 c)∧w'.cell? ⟨w.heap.size,7,none⟩=some (.slice A2 l2 c2)∧w'.cell? ⟨w.heap.size,8,none⟩=some (.slice A3 n c3)∧w'.cell? ⟨w.heap.size,9,none⟩=some (.slice A4 l4 c4)) (first|(go_keep;done)|((try go_split_ands);(try dsimp only);(repeat' apply And.intro);all_goals (first|(go_keep;done)|(with_reducible exact hxh.cell (by assumption))|(refine hxh.cell ?_;go_simp))))
    (first
    | (go_at_call 132;with_reducible refine (CC.out _ Ext.au).mono ?_;rintro e w' ⟨g,rfl,hbk,hxh,hab⟩)
    | (go_at_call 126;with_reducible refine (CM.out _ hab _ hbk).mono ?_;rintro e w' ⟨A',cc,rfl,hrd,hxh,hac⟩))
   all_goals
    clear d0 d1 d2 d3 d4 d5 d6 d7 d8 d9 dl
    go_wp2_with fail
    go_ret2
    exact⟨A',cc,by rw[HEE.out]<;>rfl,by rw[HEE.out];exact hrd.out.1,by rw[HEE.out];exact hrd.out.2,HXW.out.trans hac⟩
end Go.Proofs.YtmpccllnpcbgcaaGreatDoor
