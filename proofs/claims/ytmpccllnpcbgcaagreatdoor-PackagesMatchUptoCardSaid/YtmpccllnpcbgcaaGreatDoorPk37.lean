/- Contracts of pack.closed, Closed. Contract of pack.allowed. -/
import Derived.Test.YtmpccllnpcbgcaaGreatDoorPk35
import Derived.Test.YtmpccllnpcbgcaaGreatDoorPk28
import Derived.Test.YtmpccllnpcbgcaaGreatDoorPk20
namespace Go.Proofs.YtmpccllnpcbgcaaGreatDoor
section
open Go.RowKit
noncomputable def clsL (p:Pkg) (ns:List ByteArray):List ByteArray:=if f2 (pkErr p) (chErr p.comps ns)=0 then markL p.comps (clsV p.comps ns) else []
set_option maxHeartbeats 16000000 in
set_option maxRecDepth 100000 in
theorem Closed_any (p:Pkg) (A:Option Addr) (c:Nat) (A2:Option Addr) (c2:Nat) (A3:Option Addr) (c3:Nat) (A4:Option Addr) (c4:Nat) (ns:List ByteArray) (An:Option Addr) (nn cn:Nat) (w:World) (hg:GoodN w) (hp:PkIn w p A c A2 c2 A3 c3 A4 c4) (hs:SmallP p) (hnn:ns.length=nn) (hcn:nn<=cn) (hrn:RdX w An ns) (hln:nn<=2000000) :
 Calls Tryz.prog 50 #[pkV p A c A2 c2 A3 c3 A4 c4,.slice An nn cn] w fun e w'=>∃ A' cc,e=.returned (.tuple #[.slice A' (clsL p ns).length cc,.int .i64 (f2 (pkErr p) (chErr p.comps ns))])∧(clsL p ns).length<=cc∧RdX w' A' (clsL p ns)∧Ext w w':=by
 have CF:=Hy (fun W (h:Ext w W)=>chosenFault_any p A c A2 c2 A3 c3 A4 c4 ns An nn cn W (hg.ext h) (hp.ext h) hs hnn hcn (hrn.ext h) (by omega))
 have CCL:=Hy (fun (h30:p.comps.length<=30) hnd W (h:Ext w W)=>closed_any p A c A2 c2 A3 c3 A4 c4 ns An nn cn W (hp.comps.ext h) h30 (fun c hc=>(hs.comps c hc).nlen) hnd hnn (hrn.ext h) hln)
 have CMK:=Hy (fun W (h:Ext w W) g hb=>marked_any p A c A2 c2 A3 c3 A4 c4 (clsV p.comps ns) g p.comps.length W (hp.comps.ext h) hs.clen hb)
 have HOK:=Hy (pk_ok (p:=p))
 have HL0:=Hy (show ¬ f2 (pkErr p) (chErr p.comps ns)=0->clsL p ns=[] from fun h=>if_neg h)
 have HL1:=Hy (show f2 (pkErr p) (chErr p.comps ns)=0->clsL p ns=markL p.comps (clsV p.comps ns) from fun h=>if_pos h)
 have HF2:=Hy (fun h=>(f2_eq0 (a:=pkErr p) (b:=chErr p.comps ns) h).1)
 clear hg hp hs hrn
 generalize f2 (pkErr p) (chErr p.comps ns)=E at *
 generalize pkErr p=PE at *
 generalize clsL p ns=L at *
 generalize markL p.comps (clsV p.comps ns)=ML at *
 obtain⟨pn,⟨v1,v2,v3,va⟩,pt,pe,pb,l,pm⟩:=p
 dsimp only[pkV] at *
 generalize pe.length=l1 at *
 generalize pb.length=l2 at *
 generalize pm.length=l4 at *
 generalize l.length=n at *
 have b0:=Blk.new w 76 #[.string pn,.int .i64 v1,.int .i64 v2,.int .i64 v3,.string va,.string pt,.slice A l1 c,.slice A2 l2 c2,.slice A3 n c3,.slice A4 l4 c4]
 have hx0:Ext w (w.alloc (.cells #[.string pn,.int .i64 v1,.int .i64 v2,.int .i64 v3,.string va,.string pt,.slice A l1 c,.slice A2 l2 c2,.slice A3 n c3,.slice A4 l4 c4] 76)):=(Ext.refl w).alloc _
 generalize hW0:w.alloc (.cells #[.string pn,.int .i64 v1,.int .i64 v2,.int .i64 v3,.string va,.string pt,.slice A l1 c,.slice A2 l2 c2,.slice A3 n c3,.slice A4 l4 c4] 76)=W0 at *
 have HW0:=Hy hW0
 have e0:=b0.cell;have l0:=b0.lt
 clear hW0
 go_enter Tryz.func50,Tryz.ntmps50
 go_wp2_with fail
 rw[HW0.out]
 refine (CF.out _ hx0).mono ?_
 rintro e w1 ⟨rfl,hx1⟩
 have hx01:=hx0.trans hx1
 have b1:=b0.ext hx1
 clear e0 l0 b0 CF
 by_cases hH:E=0
 rotate_left
 ·have HEE:=Hy (HL0.out hH)
  have hne:(E != 0)=true:=by rw[bne_iff_ne];exact hH
  clear hH
  go_wp2
  go_ret2
  exact⟨none,0,by rw[HEE.out]<;>rfl,by rw[HEE.out];exact Nat.le_refl _,by rw[HEE.out];exact fun h=>absurd rfl h,hx01⟩
 have HEE:=Hy (HL1.out hH)
 have HK:=Hy (HOK.out (HF2.out hH))
 have d0:w1.cell? ⟨w.heap.size,0,none⟩=some (.string pn):=b1.cell 0
 have d1:w1.cell? ⟨w.heap.size,1,none⟩=some (.int .i64 v1):=b1.cell 1
 have d2:w1.cell? ⟨w.heap.size,2,none⟩=some (.int .i64 v2):=b1.cell 2
 have d3:w1.cell? ⟨w.heap.size,3,none⟩=some (.int .i64 v3):=b1.cell 3
 have d4:w1.cell? ⟨w.heap.size,4,none⟩=some (.string va):=b1.cell 4
 have d5:w1.cell? ⟨w.heap.size,5,none⟩=some (.string pt):=b1.cell 5
 have d6:w1.cell? ⟨w.heap.size,6,none⟩=some (.slice A l1 c):=b1.cell 6
 have d7:w1.cell? ⟨w.heap.size,7,none⟩=some (.slice A2 l2 c2):=b1.cell 7
 have d8:w1.cell? ⟨w.heap.size,8,none⟩=some (.slice A3 n c3):=b1.cell 8
 have d9:w1.cell? ⟨w.heap.size,9,none⟩=some (.slice A4 l4 c4):=b1.cell 9
 have dl:=b1.lt
 have CC:=Hy (fun W (h:Ext w1 W)=>(CCL.out HK.out.1 HK.out.2 W (hx01.trans h)).mono (fun e w' hh=>(show ∃ g,e=.returned (.slice (some ⟨g,0,none⟩) n n)∧Hid (Blk w' g 4 (boolsA n (clsV l ns)))∧Ext W w'∧Ext w1 w' from by
  obtain⟨g,h1,h2,h3⟩:=hh
  exact⟨g,h1,h2,h3,h.trans h3⟩)))
 have CM:=Hy (fun W (h:Ext w1 W) g (hb:Hid (Blk W g 4 (boolsA n (clsV l ns))))=>(CMK.out W (hx01.trans h) g hb.out).mono (fun e w' hh=>(show ∃ A' cc,e=.returned (.slice A' ML.length cc)∧Hid (ML.length<=cc∧RdX w' A' ML)∧Ext W w'∧Ext w1 w' from by
  obtain⟨A',cc,h1,h2,h3,h4⟩:=hh
  exact⟨A',cc,h1,⟨h2,h3⟩,h4,h.trans h4⟩)))
 have HX01:=Hy hx01
 clear HOK HL0 HL1 HF2 hx01 hx0 hx1 b1 CCL CMK
 subst hH
 go_wp2
 go_region_held3 (fun w'=>w'.cell? ⟨w.heap.size,0,none⟩=some (.string pn)∧w'.cell? ⟨w.heap.size,1,none⟩=some (.int .i64 v1)∧w'.cell? ⟨w.heap.size,2,none⟩=some (.int .i64 v2)∧w'.cell? ⟨w.heap.size,3,none⟩=some (.int .i64 v3)∧w'.cell? ⟨w.heap.size,4,none⟩=some (.string va)∧w'.cell? ⟨w.heap.size,5,none⟩=some (.string pt)∧w'.cell? ⟨w.heap.size,6,none⟩=some (.slice A l1 c)∧w'.cell? ⟨w.heap.size,7,none⟩=some (.slice A2 l2 c2)∧w'.cell? ⟨w.heap.size,8,none⟩=some (.slice A3 n c3)∧w'.cell? ⟨w.heap.size,9,none⟩=some (.slice A4 l4 c4)) (first|(go_keep;done)|((try go_split_ands);(try dsimp only);(repeat' apply And.intro);all_goals (first|(go_keep;done)|(with_reducible exact hxh.cell (by assumption))|(refine hxh.cell ?_;go_simp))))
  (first
  | (go_at_call 127;with_reducible refine (CC.out _ Ext.au).mono ?_;rintro e w' ⟨g,rfl,hbk,hxh,hab⟩)
  | (go_at_call 126;with_reducible refine (CM.out _ hab _ hbk).mono ?_;rintro e w' ⟨A',cc,rfl,hrd,hxh,hac⟩))
 all_goals
  clear d0 d1 d2 d3 d4 d5 d6 d7 d8 d9 dl
  go_wp2_with fail
  go_ret2
  exact⟨A',cc,by rw[HEE.out]<;>rfl,by rw[HEE.out];exact hrd.out.1,by rw[HEE.out];exact hrd.out.2,HX01.out.trans hac⟩
end
section
open Go.RowKit
theorem pk_ok3 {p:Pkg} (h:pkErr p=0):0 < p.comps.length∧∀ k (hk:k < p.comps.length),checkC p.comps[k].wh=0:=by
 have h1:=firstI_ne h
 have a:=h1 (headErr p) (by simp)
 have b:=h1 (firstN p.comps.length (cpAt p.comps)) (by simp)
 refine⟨(head_ok a).2,fun k hk=>?_⟩
 have c:=firstI_ne (firstN_ok b k hk) (checkC (p.comps.getD k zeroP).wh) (by simp)
 rwa [getD_cm hk] at c
def leErr (lf ls:List Se):Int:=f2 (seErr nameL lf) (seErr pathL ls)
theorem holdE_le {c:Cd} {lf ls:List Se} (h:checkC c=0):holdE c lf ls=leErr lf ls:=by
 unfold holdE leErr
 rw[firstI_f2,firstI_f2,firstI_f2,firstI_nil,f2_zero,h,zero_f2]
def hldV (l:List Cmp) (lf ls:List Se) (k:Nat):Bool:=holdsC (tbl lf) (tbl ls) (l.getD k zeroP).wh
noncomputable def alwU (l:List Cmp) (R:Nat->Bool) (k m:Nat):Bool:=R k&&(List.range m).all fun j=>!hasB l (l.getD k zeroP).needs (l.getD j zeroP).name||R j
noncomputable def alwV (l:List Cmp) (R:Nat->Bool) (k:Nat):Bool:=alwU l R k l.length
theorem alwU_succ (l:List Cmp) (R:Nat->Bool) (k m:Nat):alwU l R k (m+1)=(alwU l R k m&&(!hasB l (l.getD k zeroP).needs (l.getD m zeroP).name||R m)):=by
 unfold alwU
 rw[List.range_succ,List.all_append,Bool.and_assoc]
 simp
theorem boolsA_congr {n:Nat} {V U:Nat->Bool} (h:∀ i,i < n->V i=U i):boolsA n V=boolsA n U:=by
 unfold boolsA
 congr 1
 exact List.map_congr_left fun i hi=>by rw[h i (List.mem_range.1 hi)]
set_option maxHeartbeats 32000000 in
set_option maxRecDepth 100000 in
theorem allowed_any (p:Pkg) (A:Option Addr) (c:Nat) (A2:Option Addr) (c2:Nat) (A3:Option Addr) (c3:Nat) (A4:Option Addr) (c4:Nat) (Af As:Option Addr) (nf nS cf cS:Nat) (lf ls:List Se) (w:World) (hg:GoodN w) (hp:PkIn w p A c A2 c2 A3 c3 A4 c4) (hs:SmallP p)
 (hn1:lf.length=nf) (hr1:RdE w Af lf) (hs1:SmallE lf) (hl1:nf<=2097152) (hn2:ls.length=nS) (hr2:RdE w As ls) (hs2:SmallE ls) (hl2:nS<=2097152) :
 Calls Tryz.prog 131 #[pkV p A c A2 c2 A3 c3 A4 c4,.slice Af nf cf,.slice As nS cS] w fun e w'=>((¬ f2 (pkErr p) (leErr lf ls)=0∧e=.returned (.tuple #[.slice none 0 0,.int .i64 (f2 (pkErr p) (leErr lf ls))])) ∨
  (f2 (pkErr p) (leErr lf ls)=0∧∃ g,e=.returned (.tuple #[.slice (some ⟨g,0,none⟩) p.comps.length p.comps.length,.int .i64 0])∧Blk w' g 4 (boolsA p.comps.length (alwV p.comps (hldV p.comps lf ls)))))∧Ext w w':=by
 have CK:=Hy (fun W (h:Ext w W)=>PCheck_any p A c A2 c2 A3 c3 A4 c4 W (hg.ext h) (hp.ext h) hs)
 have HOK:=Hy (pk_ok (p:=p))
 have HOK3:=Hy (pk_ok3 (p:=p))
 have HRE:=Hy (fun (h30:p.comps.length<=30) hnd W (h:Ext w W) ns An nn cn (hnn:ns.length=nn) (hrn:RdX W An ns) (hln:nn<=2097152)=>reach_any p A c A2 c2 A3 c3 A4 c4 ns An nn cn W (hp.comps.ext h) h30 (fun c hc=>(hs.comps c hc).nlen) hnd hnn hrn hln)
 have CH:=Hy (fun k (hk:k < p.comps.length) (hc:checkC p.comps[k].wh=0) W (h:Ext w W) v (hv:CdIn AnyB W p.comps[k].wh v)=>(show Calls Tryz.prog 185 #[v,.slice Af nf cf,.slice As nS cS] W fun e w'=>e=.returned (.tuple #[.bool (if leErr lf ls=0 then hldV p.comps lf ls k else false),.int .i64 (leErr lf ls)])∧Ext W w' from by
  have hh:=Holds_any Af As nf nS cf cS lf ls p.comps[k].wh v AnyB W (hg.ext h) hv (hs.comps _ (List.getElem_mem hk)).wh (hs.comps _ (List.getElem_mem hk)).cnt hn1 (hr1.ext h) hs1 hl1 hn2 (hr2.ext h) hs2 hl2
  unfold holdR at hh
  rw[holdE_le hc] at hh
  unfold hldV
  rw[getD_cm hk]
  exact hh))
 have HR:=Hy hp.comps
 have HNL:=Hy (fun k (hk:k < p.comps.length)=>(hs.comps _ (List.getElem_mem hk)).nlen)
 have HGN:=Hy (fun k (hk:k < p.comps.length)=>show (p.comps.getD k zeroP).needs=p.comps[k].needs from by rw[getD_cm hk])
 have hcl:=hs.clen
 have HUS:=Hy (fun R k m=>alwU_succ p.comps R k m)
 have HU0:=Hy (show ∀ R k,alwU p.comps R k 0=R k from fun R k=>by simp[alwU])
 clear hg hp hs hr1 hs1 hr2 hs2
 generalize hldV p.comps lf ls=R at *
 generalize hLE:leErr lf ls=LE at *
 have HUV:=Hy (show ∀ k,alwV p.comps R k=alwU p.comps R k p.comps.length from fun k=>rfl)
 generalize pkErr p=PE at *
 obtain⟨E,hE⟩:∃ E,E=f2 PE LE:=⟨_,rfl⟩
 rw[<-hE]
 have HEA:=Hy (show ¬ PE=0->E=PE from fun h=>by rw[hE];exact if_neg h)
 have HEB:=Hy (show PE=0->E=LE from fun h=>by rw[hE];exact if_pos h)
 clear hE
 obtain⟨pn,⟨v1,v2,v3,va⟩,pt,pe,pb,l,pm⟩:=p
 dsimp only[pkV] at *
 generalize pe.length=l1 at *
 generalize pb.length=l2 at *
 generalize pm.length=l4 at *
 generalize alwV l R=AV at *
 generalize hn:l.length=n at CK HRE HUV HOK hcl ⊢
 have HN:=Hy hn
 clear hn hLE
 have b0:=Blk.new w 76 #[.string pn,.int .i64 v1,.int .i64 v2,.int .i64 v3,.string va,.string pt,.slice A l1 c,.slice A2 l2 c2,.slice A3 n c3,.slice A4 l4 c4]
 have hx0:Ext w (w.alloc (.cells #[.string pn,.int .i64 v1,.int .i64 v2,.int .i64 v3,.string va,.string pt,.slice A l1 c,.slice A2 l2 c2,.slice A3 n c3,.slice A4 l4 c4] 76)):=(Ext.refl w).alloc _
 have hs0:(w.alloc (.cells #[.string pn,.int .i64 v1,.int .i64 v2,.int .i64 v3,.string va,.string pt,.slice A l1 c,.slice A2 l2 c2,.slice A3 n c3,.slice A4 l4 c4] 76)).heap.size=w.heap.size+1:=World.size_alloc _ _
 generalize hW0:w.alloc (.cells #[.string pn,.int .i64 v1,.int .i64 v2,.int .i64 v3,.string va,.string pt,.slice A l1 c,.slice A2 l2 c2,.slice A3 n c3,.slice A4 l4 c4] 76)=W0 at *
 have HW0:=Hy hW0
 have e0:=b0.cell;have l0:=b0.lt
 clear hW0
 go_enter Tryz.func131,Tryz.ntmps131
 go_wp2_with fail
 rw[HW0.out]
 refine (CK.out _ hx0).mono ?_
 rintro e w1 ⟨rfl,hx1⟩
 have hx01:=hx0.trans hx1
 have b1:=b0.ext hx1
 have hs1:=hx1.size
 rw[hs0] at hs1
 clear e0 l0 b0 CK
 by_cases hH:PE=0
 rotate_left
 ·have HF:=Hy (HEA.out hH)
  have HH:=Hy hH
  have hne:(PE != 0)=true:=by rw[bne_iff_ne];exact hH
  clear hH
  go_wp2
  go_ret2
  exact⟨.inl ⟨by rw[HF.out];exact HH.out,by rw[HF.out]<;>rfl⟩,hx01⟩
 have HK1:=Hy (HOK.out hH)
 have HK3:=Hy (HOK3.out hH)
 obtain rfl:E=LE:=HEB.out hH
 clear HOK HOK3 HEA HEB
 subst hH
 have hmk:=make_bools n hcl
 have hxb:Ext w1 (w1.alloc (.cells (boolsA n fun _=>false) 4)):=(Ext.refl w1).alloc _
 have bH:=Hy (Blk.new w1 4 (boolsA n fun _=>false))
 have B1:=Hy (b1.ext hxb)
 have e1:=b1.cell;have l1':=b1.lt;have e2:=B1.out.cell;have l2':=B1.out.lt
 clear b1
 go_wp2
 clear e1 l1' e2 l2'
 go_loopw [31] (fun i wr=>∃ (k:Nat) (V:Nat->Bool),k<=n∧i=.int .i64 k∧Hid (k=0∨E=0)∧Hid (∀ j,j < k->V j=R j)∧Hid (Blk wr w1.heap.size 4 (boolsA n V))∧Hid (Blk wr w.heap.size 76 #[.string pn,.int .i64 v1,.int .i64 v2,.int .i64 v3,.string va,.string pt,.slice A l1 c,.slice A2 l2 c2,.slice A3 n c3,.slice A4 l4 c4])∧Ext w wr) (fun i _=>n - (intOf i).toNat)
 case atStart=>exact⟨0,fun _=>false,Nat.zero_le _,rfl,Hy (.inl rfl),Hy (fun j h=>absurd h (Nat.not_lt_zero _)),bH,B1,hx01.trans hxb⟩
 case round =>
  obtain⟨k,V,hk,rfl,HLE,HV,BH,BP,hxw⟩:=hrel
  obtain⟨wo,rfl⟩:∃ wo:World,wo=wr:=⟨_,rfl⟩
  by_cases hlt:k < n
  ·have hk1:k < l.length:=by rw[HN.out];exact hlt
   obtain⟨b,o,rfl,hX⟩:=HR.out (fun e=>by rw[e] at hk1;exact absurd hk1 (Nat.not_lt_zero _))
   obtain⟨k0,n0,x0,A5,m5,c5,A6,c6,A7,c7,A8,c8,hrow⟩:=hX k hk1
   have LD:=load_Cm (hrow.ext hxw)
   have HWH:=Hy hrow.has.wh
   have CHK:=Hy (fun W (h:Ext w W)=>CH.out k hk1 (HK3.out.2 k hk1) W h _ (HWH.out.ext h))
   clear hX hrow HWH
   generalize l[k]=q at *
   obtain⟨qn,qt,qd,qa,qw,qe,qi,qs⟩:=q
   dsimp only[cmV] at *
   generalize qe.length=l6 at *
   generalize qi.length=l7 at *
   generalize qs.length=l8 at *
   have b3:=Blk.new wo 82 #[.string qn,.string qt,.bool qd,.bool qa,.int .i64 k0,.string n0,.string x0,.slice A5 m5 c5,.slice A6 l6 c6,.slice A7 l7 c7,.slice A8 l8 c8]
   have hxa:Ext wo (wo.alloc (.cells #[.string qn,.string qt,.bool qd,.bool qa,.int .i64 k0,.string n0,.string x0,.slice A5 m5 c5,.slice A6 l6 c6,.slice A7 l7 c7,.slice A8 l8 c8] 82)):=(Ext.refl wo).alloc _
   generalize hW1:wo.alloc (.cells #[.string qn,.string qt,.bool qd,.bool qa,.int .i64 k0,.string n0,.string x0,.slice A5 m5 c5,.slice A6 l6 c6,.slice A7 l7 c7,.slice A8 l8 c8] 82)=W1 at *
   have HW1:=Hy hW1
   clear hW1
   have e3:=b3.cell;have l3':=b3.lt
   by_cases hLE:E=0
   ·subst hLE
    rw[if_pos rfl] at CHK
    generalize hRk:R k=Rk at *
    have HRK:=Hy hRk
    clear hRk
    go_wp2_with (refine wpList_load_at rfl _ _ rfl _ rfl _ LD ?_)
    rw[HW1.out]
    refine (CHK.out _ (hxw.trans hxa)).mono ?_
    rintro e w3 ⟨rfl,hx3⟩
    clear LD e3 l3' b3
    have hxo3:=hxa.trans hx3
    have BH3:=BH.out.ext hxo3
    have hc3:=(BH3.cell k).trans (boolsA_get hlt)
    have hf3:=BH3.free k
    have hl3:=BH3.lt
    have BH4:=Hy (show Blk (w3.setCell ⟨w1.heap.size,k,none⟩ (.bool Rk)) w1.heap.size 4 (boolsA n fun i=>if i=k then Rk else V i) from by
     have h:=BH3.set k (.bool Rk)
     rwa [boolsA_set] at h)
    have BP4:=Hy ((BP.out.ext hxo3).far (p:=⟨w1.heap.size,k,none⟩) (by show w.heap.size≠w1.heap.size;omega) (.bool Rk))
    have HV4:=Hy (show ∀ j,j < k+1->(if j=k then Rk else V j)=R j from fun j hj=>by
     by_cases e:j=k
     ·rw[if_pos e,e,HRK.out]
     ·rw[if_neg e];exact HV.out j (by omega))
    have hx4:Ext w (w3.setCell ⟨w1.heap.size,k,none⟩ (.bool Rk)):=(hxw.trans hxo3).setCell (by show w.heap.size<=w1.heap.size;omega) _
    clear BH3
    go_wp2
    go_roundw
    case rel=>exact⟨k+1,_,by omega,by go_num,Hy (by simp),HV4,BH4,BP4,hx4⟩
    case measure=>simp[intOf];omega
   ·have HH:=Hy hLE
    rw[if_neg hLE] at CHK
    have hne:(E != 0)=true:=by rw[bne_iff_ne];exact hLE
    clear hLE
    go_wp2_with (refine wpList_load_at rfl _ _ rfl _ rfl _ LD ?_)
    rw[HW1.out]
    refine (CHK.out _ (hxw.trans hxa)).mono ?_
    rintro e w3 ⟨rfl,hx3⟩
    go_wp2
    go_ret2
    exact⟨.inl ⟨HH.out,rfl⟩,hxw.trans (hxa.trans hx3)⟩
  ·obtain rfl:n=k:=by omega
   have HLE0:=Hy (show E=0 from by
    rcases HLE.out with h|h
    ·have:=HK3.out.1
     rw[HN.out] at this
     omega
    ·exact h)
   have HVR:=Hy (show boolsA n V=boolsA n R from boolsA_congr HV.out)
   have BH1:=Hy (show Blk wo w1.heap.size 4 (boolsA n R) from by rw[<-HVR.out];exact BH.out)
   have e3:=BP.out.cell;have l3':=BP.out.lt
   have hmk:=make_bools n hcl
   have hxb:Ext wo (wo.alloc (.cells (boolsA n fun _=>false) 4)):=(Ext.refl wo).alloc _
   have hBl:=BH1.out.lt
   have HA0:=Hy (show AwSt w w.heap.size #[.string pn,.int .i64 v1,.int .i64 v2,.int .i64 v3,.string va,.string pt,.slice A l1 c,.slice A2 l2 c2,.slice A3 n c3,.slice A4 l4 c4] w1.heap.size (boolsA n R) wo.heap.size (boolsA n fun _=>false) (wo.alloc (.cells (boolsA n fun _=>false) 4)) from
    ⟨BP.out.ext hxb,BH1.out.ext hxb,Blk.new wo 4 _,hxw.trans hxb,Nat.le_refl _,by omega,hBl⟩)
   have e4:=HA0.out.p.cell;have l4':=HA0.out.p.lt
   have CRE:=Hy (HRE.out HK1.out.1 HK1.out.2)
   clear HLE HV BH BP BH1 HVR CH HRE bH B1
   go_wp2
   clear e3 l3' e4 l4' hmk
   go_loopw [59] (fun i wr=>∃ (k:Nat) (U:Nat->Bool),k<=n∧i=.int .i64 k∧Hid (∀ j,j < k->U j=AV j)∧Hid (AwSt w w.heap.size #[.string pn,.int .i64 v1,.int .i64 v2,.int .i64 v3,.string va,.string pt,.slice A l1 c,.slice A2 l2 c2,.slice A3 n c3,.slice A4 l4 c4] w1.heap.size (boolsA n R) wo.heap.size (boolsA n U) wr)) (fun i _=>n - (intOf i).toNat)
   case atStart=>exact⟨0,fun _=>false,Nat.zero_le _,rfl,Hy (fun j h=>absurd h (Nat.not_lt_zero _)),HA0⟩
   case round =>
    clear hk
    obtain⟨k,U,hk,rfl,HU,HS⟩:=hrel
    obtain⟨ws,rfl⟩:∃ ws:World,ws=wr:=⟨_,rfl⟩
    have hxws:=HS.out.x
    by_cases hlt:k < n
    ·have hk1:k < l.length:=by rw[HN.out];exact hlt
     obtain⟨b,o,rfl,hX⟩:=HR.out (fun e=>by rw[e] at hk1;exact absurd hk1 (Nat.not_lt_zero _))
     obtain⟨k0,n0,x0,A5,m5,c5,A6,c6,A7,c7,A8,c8,hrow⟩:=hX k hk1
     have LD:=load_Cm (hrow.ext hxws)
     have HIN:=Hy hrow.has.needs
     have hnl:=HNL.out k hk1
     have HUSK:=Hy (HUS.out R k)
     have HU0K:=Hy (HU0.out R k)
     have HUVK:=Hy (HUV.out k)
     rw[HGN.out k hk1] at HUSK
     generalize alwU l R k=AU at *
     clear hX hrow
     generalize l[k]=q at *
     obtain⟨qn,qt,qd,qa,qw,qe,qi,qs⟩:=q
     dsimp only[cmV] at *
     generalize h6:qe.length=l6 at *
     have H6:=Hy h6
     clear h6
     generalize qi.length=l7 at *
     generalize qs.length=l8 at *
     obtain⟨X,hXX⟩:∃ X:Nat->Bool,X=fun i=>hasB l qe (l.getD i zeroP).name:=⟨_,rfl⟩
     have HUX:=Hy (show ∀ m,AU (m+1)=(AU m&&(!X m||R m)) from fun m=>by rw[HUSK.out,hXX])
     have CREK:=Hy (fun W (h:Ext w W)=>CRE.out W h qe A6 l6 c6 H6.out (HIN.out.ext h) hnl)
     rw[<-hXX] at CREK
     clear hXX HUSK HIN
     have b3:=Blk.new ws 82 #[.string qn,.string qt,.bool qd,.bool qa,.int .i64 k0,.string n0,.string x0,.slice A5 m5 c5,.slice A6 l6 c6,.slice A7 l7 c7,.slice A8 l8 c8]
     have hxa:Ext ws (ws.alloc (.cells #[.string qn,.string qt,.bool qd,.bool qa,.int .i64 k0,.string n0,.string x0,.slice A5 m5 c5,.slice A6 l6 c6,.slice A7 l7 c7,.slice A8 l8 c8] 82)):=(Ext.refl ws).alloc _
     have HS1:=Hy (HS.out.ext hxa)
     generalize hW1:ws.alloc (.cells #[.string qn,.string qt,.bool qd,.bool qa,.int .i64 k0,.string n0,.string x0,.slice A5 m5 c5,.slice A6 l6 c6,.slice A7 l7 c7,.slice A8 l8 c8] 82)=W1 at *
     have HW1:=Hy hW1
     clear hW1
     have hcH:=(HS1.out.h.cell k).trans (boolsA_get hlt)
     have hcO:=(HS1.out.o.cell k).trans (boolsA_get hlt)
     have hlH:=HS1.out.h.lt;have hlO:=HS1.out.o.lt
     have hfO:=HS1.out.o.free k
     have hn2:=HS1.out.n2
     generalize hRk:R k=Rk at *
     have HRK:=Hy hRk
     clear hRk
     have HS2:=Hy (HS1.out.set k Rk)
     have hwl:=HS.out.o.lt
     have b4:Blk (W1.setCell ⟨wo.heap.size,k,none⟩ (.bool Rk)) ws.heap.size 82 #[.string qn,.string qt,.bool qd,.bool qa,.int .i64 k0,.string n0,.string x0,.slice A5 m5 c5,.slice A6 l6 c6,.slice A7 l7 c7,.slice A8 l8 c8]:=b3.far (by show ws.heap.size≠wo.heap.size;omega) _
     have e4:=b4.cell;have l4':=b4.lt
     have e5:=HS2.out.p.cell;have l5':=HS2.out.p.lt
     go_wp2_with (first|(rw[HW1.out])|(refine wpList_load_at rfl _ _ rfl _ rfl _ LD ?_))
     refine (CREK.out _ HS2.out.x).mono ?_
     rintro e w3 ⟨g3,rfl,hg3,hB3,hx3⟩
     have HS3:=Hy (HS2.out.ext hx3)
     have HB3:=Hy hB3
     have ho2:=HS2.out.o.lt
     have hg3o:g3≠wo.heap.size:=by omega
     clear e4 l4' e5 l5' hcH hcO hlH hlO hfO LD b3 b4 hB3
     go_wp2
     go_loopw [76] (fun i wr=>∃ (j:Nat) (U':Nat->Bool),j<=n∧i=.int .i64 j∧Hid (∀ i,i≠k->U' i=U i)∧Hid (U' k=AU j)∧Hid (AwSt w w.heap.size #[.string pn,.int .i64 v1,.int .i64 v2,.int .i64 v3,.string va,.string pt,.slice A l1 c,.slice A2 l2 c2,.slice (some ⟨b,o,none⟩) n c3,.slice A4 l4 c4] w1.heap.size (boolsA n R) wo.heap.size (boolsA n U') wr)∧Hid (Blk wr g3 4 (boolsA n X))) (fun i _=>n - (intOf i).toNat)
     case atStart=>exact⟨0,_,Nat.zero_le _,rfl,Hy (fun i hi=>if_neg hi),Hy (by rw[if_pos rfl,HU0K.out]),HS3,HB3⟩
     case round =>
      obtain⟨j,U',hj,rfl,HI,HK,HSj,HBj⟩:=hrel
      obtain⟨w7,rfl⟩:∃ w7:World,w7=wr:=⟨_,rfl⟩
      by_cases hlt3:j < n
      ·have hcO:=(HSj.out.o.cell k).trans (boolsA_get hlt)
       have hcH:=(HSj.out.h.cell j).trans (boolsA_get hlt3)
       have hcX:=(HBj.out.cell j).trans (boolsA_get hlt3)
       have hlH:=HSj.out.h.lt;have hlO:=HSj.out.o.lt;have hlX:=HBj.out.lt
       have hfO:=HSj.out.o.free k
       have HSET:=Hy (fun b=>Hy (HSj.out.set k b))
       have HBX:=Hy (fun b=>Hy (HBj.out.far (p:=⟨wo.heap.size,k,none⟩) hg3o (.bool b)))
       have HII:=Hy (fun (b:Bool)=>Hy (show ∀ i,i≠k->(if i=k then b else U' i)=U i from fun i hi=>by rw[if_neg hi];exact HI.out i hi))
       have HN:=Hy (show (U' k&&(!X j||R j))=AU (j+1) from by rw[HUX.out,HK.out])
       generalize U' k=u at *
       generalize X j=x at *
       generalize R j=r at *
       cases u<;>cases x<;>cases r
       all_goals
        have HNb:=Hy HN.out
        go_wp2
        go_roundw
        case rel=>exact⟨j+1,_,by omega,by go_num,HII.out _,Hy (by rw[if_pos rfl];exact HNb.out),HSET.out _,HBX.out _⟩
        case measure=>simp[intOf];omega
      ·obtain rfl:n=j:=by omega
       have HUN:=Hy (show ∀ i,i < k+1->U' i=AV i from fun i hi=>by
        by_cases e:i=k
        ·rw[e,HK.out,HUVK.out]
        ·rw[HI.out i e];exact HU.out i (by omega))
       go_wp2
       go_roundw
       case rel=>exact⟨k+1,U',by omega,by go_num,HUN,HSj⟩
       case measure=>simp[intOf];omega
    ·obtain rfl:n=k:=by omega
     have HUA:=Hy (show boolsA n U=boolsA n AV from boolsA_congr HU.out)
     go_wp2
     go_ret2
     exact⟨.inr ⟨HLE0.out,_,by rfl,by rw[<-HUA.out];exact HS.out.o⟩,hxws⟩
end
end Go.Proofs.YtmpccllnpcbgcaaGreatDoor
