/- The law outlaw2.PackagesMatch: its walk. (Printed by gen/lawpk.py.) -/
import Derived.Test.YtmpccllnpcbgcaaGreatDoorPk45
import Derived.Test.YtmpccllnpcbgcaaGreatDoorPk47
namespace Go.Proofs.YtmpccllnpcbgcaaGreatDoor
open Go.RowKit
theorem comp_err {p:Pkg} {nm:ByteArray} (h:¬ compE p nm=0):compR p nm=zeroP:=if_neg h
theorem comp_ok {p:Pkg} {nm:ByteArray} (h:compE p nm=0):pkErr p=0∧∃ (k:Nat) (hk:k < p.comps.length),cmpAt p.comps nm=k∧compR p nm=p.comps[k]:=by
 have h1:pkErr p=0:=by
  by_cases e:pkErr p=0
  ·exact e
  ·rw[(comp_a e).1] at h;exact absurd h e
 refine⟨h1,?_⟩
 rcases cmpAt_cases p.comps nm with ⟨k,hk,e,_⟩|⟨e,_⟩
 ·exact⟨k,hk,e,(comp_c h1 hk e).2⟩
 ·rw[(comp_b h1 e).1] at h;cases h
theorem comp_first {p:Pkg} {nm:ByteArray} {X:Int} (h:X=if decide (cmpAt p.comps nm < 0)=true then 10 else 0):firstI [pkErr p,X]=compE p nm:=by
 subst h
 unfold compE f2
 by_cases e:pkErr p=0<;>by_cases k:cmpAt p.comps nm < 0<;>simp[firstI,e,k]
theorem le_first (lf ls:List Se) (E:Int):firstI [E,seErr nameL lf,seErr pathL ls]=f2 E (leErr lf ls):=by
 unfold leErr f2
 by_cases e:E=0<;>by_cases k:seErr nameL lf=0<;>by_cases j:seErr pathL ls=0<;>simp[firstI,e,k,j]
theorem zeroP_small:SmallCm zeroP where
 name:=by decide
 title:=by decide
 wh:=.mk _ _ _ _ (by decide) (by decide) (by decide) (fun _ h=>by cases h)
 cnt:=by simp[zeroP,zeroC,cnt,cnts]
 needs:=fun _ h=>by cases h
 nlen:=by decide
 items:=fun _ h=>by cases h
 ilen:=by decide
 steps:=fun _ h=>by cases h
 slen:=by decide
set_option maxHeartbeats 64000000 in
set_option maxRecDepth 100000 in
theorem PackagesMatch_any (p:Pkg) (A:Option Addr) (c:Nat) (A2:Option Addr) (c2:Nat) (A3:Option Addr) (c3:Nat) (A4:Option Addr) (c4:Nat) (nm:ByteArray) (ns:List ByteArray) (An:Option Addr) (nn cn:Nat) (Af As:Option Addr) (nf nS cf cS:Nat) (lf ls:List Se) (w:World) (hg:GoodN w) (hp:PkIn w p A c A2 c2 A3 c3 A4 c4) (hs:SmallP p)
 (hnt:(p.comps.flatMap Cmp.needs).length<=2097152) (hnn:ns.length=nn) (hcn:nn<=cn) (hrn:RdX w An ns) (hln:nn<=2000000)
 (hn1:lf.length=nf) (hr1:RdE w Af lf) (hs1:SmallE lf) (hl1:nf<=2097152) (hn2:ls.length=nS) (hr2:RdE w As ls) (hs2:SmallE ls) (hl2:nS<=2097152) :
 Calls Tryz.prog 7 #[pkV p A c A2 c2 A3 c3 A4 c4,.string nm,.slice An nn cn,.slice Af nf cf,.slice As nS cS] w fun e w'=>e=.returned (.bool true)∧Ext w w':=by
 have CE:=Hy (fun W (h:Ext w W)=>PackageError_any p A c A2 c2 A3 c3 A4 c4 W (hg.ext h) (hp.ext h) hs)
 have CK:=Hy (fun W (h:Ext w W)=>PCheck_any p A c A2 c2 A3 c3 A4 c4 W (hg.ext h) (hp.ext h) hs)
 have CP:=Hy (fun W (h:Ext w W)=>packs_any W (hg.ext h))
 have CM:=Hy (fun W (h:Ext w W)=>Component_any p A c A2 c2 A3 c3 A4 c4 nm W (hg.ext h) (hp.ext h) hs)
 have CI:=Hy (fun W g (h:Ext w W) (hc:W.cell? ⟨g,0,none⟩=some (.string nm))=>lawIndex_any p.comps A3 p.comps.length c3 g nm W rfl (hp.comps.ext h) hs.clen hc)
 have CC:=Hy (fun W (h:Ext w W)=>Closed_any p A c A2 c2 A3 c3 A4 c4 ns An nn cn W (hg.ext h) (hp.ext h) hs hnn hcn (hrn.ext h) hln)
 have CH:=Hy (fun W (h:Ext w W)=>ChosenError_any p A c A2 c2 A3 c3 A4 c4 ns An nn cn W (hp.comps.ext h) hs.clen hnn hcn (hrn.ext h) (by omega))
 have CO:=Hy (fun (h0:pkErr p=0) (h1:chErr p.comps ns=0) W (h:Ext w W)=>ClosedOf_any p A c A2 c2 A3 c3 A4 c4 ns An nn cn W (hp.comps.ext h) (pk_ok h0).1 (pk_ok h0).2 (fun c hc=>(hs.comps c hc).name) (fun c hc=>(hs.comps c hc).needs) hnt hnn (hrn.ext h) (by omega) (ch_comps h1))
 have CA:=Hy (fun W (h:Ext w W)=>Allowed_any p A c A2 c2 A3 c3 A4 c4 Af As nf nS cf cS lf ls W (hg.ext h) (hp.ext h) hs hn1 (hr1.ext h) hs1 hl1 hn2 (hr2.ext h) hs2 hl2)
 have CD:=Hy (fun W (h:Ext w W)=>Defaults_any p A c A2 c2 A3 c3 A4 c4 Af As nf nS cf cS lf ls W (hg.ext h) (hp.ext h) hs hn1 (hr1.ext h) hs1 hl1 hn2 (hr2.ext h) hs2 hl2)
 have CLF:=Hy (fun W (h:Ext w W)=>ListErrorF_any Af nf cf lf W (hg.toGood.ext h) hn1 (hr1.ext h) hs1 hl1)
 have CLS:=Hy (fun W (h:Ext w W)=>ListErrorS_any As nS cS ls W (hg.toGood.ext h) hn2 (hr2.ext h) hs2 hl2)
 have CF1:=Hy (fun W (h:Ext w W)=>Facts_any Af nf cf lf W hn1 (hr1.ext h) hs1 hl1)
 have CF2:=Hy (fun W (h:Ext w W)=>Facts_any As nS cS ls W hn2 (hr2.ext h) hs2 hl2)
 have CAO:=Hy (fun (h0:pkErr p=0) bF bS W (h:Ext w W) m1 m2=>AllowedOf_any p A c A2 c2 A3 c3 A4 c4 bF bS nf nS lf ls W (hg.ext h) (hp.comps.ext h) (pk_ok h0).1 (pk_ok h0).2 (fun c hc=>(hs.comps c hc).name) (fun c hc=>(hs.comps c hc).needs) hnt (pk_needs h0) (pk_holds h0 hs1) m1 m2)
 have CDO:=Hy (fun (h0:pkErr p=0) bF bS W (h:Ext w W) m1 m2=>DefaultsOf_any p A c A2 c2 A3 c3 A4 c4 bF bS nf nS lf ls W (hg.ext h) (hp.comps.ext h) (pk_ok h0).1 (pk_ok h0).2 (fun c hc=>(hs.comps c hc).name) (fun c hc=>(hs.comps c hc).needs) hnt (pk_needs h0) (pk_holds h0 hs1) m1 m2)
 obtain⟨D,hD⟩:∃ D,decide (cmpAt p.comps nm < 0)=D:=⟨_,rfl⟩
 obtain⟨X,hX⟩:∃ X,X=(if D=true then (10:Int) else 0):=⟨_,rfl⟩
 have CW:=Hy (fun W=>show Calls Tryz.prog 46 #[.bool D,.int .i64 10] W fun e w'=>e=.returned (.int .i64 X)∧W=w' from by rw[hX];exact When_any D 10 W)
 have HF1:=Hy (comp_first (p:=p) (nm:=nm) (X:=X) (by rw[hD];exact hX))
 have HF2:=Hy (le_first lf ls (pkErr p))
 have HER:=Hy (fun h=>comp_err (p:=p) (nm:=nm) h)
 have HOKR:=Hy (fun h=>comp_ok (p:=p) (nm:=nm) h)
 have HSM:=Hy (fun k (hk:k < p.comps.length)=>hs.comps _ (List.getElem_mem hk))
 have HR:=Hy hp.comps
 have hcap:=hp.cap.2.2.1
 have HCL0:=Hy (show ¬ f2 (pkErr p) (chErr p.comps ns)=0->clsL p ns=[] from fun h=>if_neg h)
 have HCL1:=Hy (show f2 (pkErr p) (chErr p.comps ns)=0->clsL p ns=markL p.comps (clsV p.comps ns)∧(clsL p ns).length<=100000000 from fun h=>by
  have e:clsL p ns=markL p.comps (clsV p.comps ns):=if_pos h
  refine⟨e,?_⟩
  rw[e]
  have h1:=markK_len p.comps (clsV p.comps ns) p.comps.length
  have h2:=hs.clen
  unfold markL;omega)
 have HAL0:=Hy (show ¬ f2 (pkErr p) (leErr lf ls)=0->alwL p lf ls=[]∧dflL p lf ls=[] from fun h=>⟨if_neg h,if_neg h⟩)
 have HAL1:=Hy (show f2 (pkErr p) (leErr lf ls)=0->(alwL p lf ls=markL p.comps (alwV p.comps (hldV p.comps lf ls))∧(alwL p lf ls).length<=100000000)∧(dflL p lf ls=markL p.comps (dflV p.comps (hldV p.comps lf ls))∧(dflL p lf ls).length<=100000000) from fun h=>by
  have e:alwL p lf ls=markL p.comps (alwV p.comps (hldV p.comps lf ls)):=if_pos h
  have e2:dflL p lf ls=markL p.comps (dflV p.comps (hldV p.comps lf ls)):=if_pos h
  have h1:=markK_len p.comps (alwV p.comps (hldV p.comps lf ls)) p.comps.length
  have h3:=markK_len p.comps (dflV p.comps (hldV p.comps lf ls)) p.comps.length
  have h2:=hs.clen
  refine⟨⟨e,?_⟩,e2,?_⟩
  ·rw[e];unfold markL;omega
  ·rw[e2];unfold markL;omega)
 have HE4:=Hy (show ¬ pkErr p=0->¬ f2 (pkErr p) (leErr lf ls)=0 from fun h h2=>h (f2_eq0 h2).1)
 clear hg hp hs hnt hnn hrn hr1 hs1 hr2 hs2 hn1 hn2
 generalize f2 (pkErr p) (leErr lf ls)=E4 at *
 generalize hE3:f2 (pkErr p) (chErr p.comps ns)=E3 at *
 generalize chErr p.comps ns=E2 at *
 generalize compE p nm=E at *
 generalize compR p nm=R at *
 generalize pkErr p=E1 at *
 generalize clsL p ns=L1 at *
 generalize alwL p lf ls=L2 at *
 generalize dflL p lf ls=L3 at *
 generalize markL p.comps (clsV p.comps ns)=M1 at *
 generalize markL p.comps (alwV p.comps (hldV p.comps lf ls))=M2 at *
 generalize markL p.comps (dflV p.comps (hldV p.comps lf ls))=M3 at *
 generalize seErr nameL lf=F1 at *
 generalize seErr pathL ls=F2 at *
 generalize cmpAt p.comps nm=K at *
 have HE3:=Hy hE3
 clear hE3 hX
 obtain⟨pn,⟨v1,v2,v3,va⟩,pt,pe,pb,l,pm⟩:=p
 dsimp only[pkV] at *
 generalize pe.length=l1 at *
 generalize pb.length=l2 at *
 generalize pm.length=l4 at *
 generalize hn:l.length=n at CE CK CM CI CC CH CO CA CD CAO CDO hcap ⊢
 have HN:=Hy hn
 clear hn
 have x1:Ext w (w.alloc (.cells #[.string pn,.int .i64 v1,.int .i64 v2,.int .i64 v3,.string va,.string pt,.slice A l1 c,.slice A2 l2 c2,.slice A3 n c3,.slice A4 l4 c4] 76)):=(Ext.refl w).alloc _
 have x2:Ext (w.alloc (.cells #[.string pn,.int .i64 v1,.int .i64 v2,.int .i64 v3,.string va,.string pt,.slice A l1 c,.slice A2 l2 c2,.slice A3 n c3,.slice A4 l4 c4] 76)) ((w.alloc (.cells #[.string pn,.int .i64 v1,.int .i64 v2,.int .i64 v3,.string va,.string pt,.slice A l1 c,.slice A2 l2 c2,.slice A3 n c3,.slice A4 l4 c4] 76)).alloc (.cells #[.string nm] 9)):=(Ext.refl _).alloc _
 have s1:(w.alloc (.cells #[.string pn,.int .i64 v1,.int .i64 v2,.int .i64 v3,.string va,.string pt,.slice A l1 c,.slice A2 l2 c2,.slice A3 n c3,.slice A4 l4 c4] 76)).heap.size=w.heap.size+1:=World.size_alloc _ _
 have b0:Blk ((w.alloc (.cells #[.string pn,.int .i64 v1,.int .i64 v2,.int .i64 v3,.string va,.string pt,.slice A l1 c,.slice A2 l2 c2,.slice A3 n c3,.slice A4 l4 c4] 76)).alloc (.cells #[.string nm] 9)) w.heap.size 76 #[.string pn,.int .i64 v1,.int .i64 v2,.int .i64 v3,.string va,.string pt,.slice A l1 c,.slice A2 l2 c2,.slice A3 n c3,.slice A4 l4 c4]:=(Blk.new w _ _).ext x2
 have b1:Blk ((w.alloc (.cells #[.string pn,.int .i64 v1,.int .i64 v2,.int .i64 v3,.string va,.string pt,.slice A l1 c,.slice A2 l2 c2,.slice A3 n c3,.slice A4 l4 c4] 76)).alloc (.cells #[.string nm] 9)) (w.heap.size+1) 9 #[.string nm]:=by
  have:=Blk.new (w.alloc (.cells #[.string pn,.int .i64 v1,.int .i64 v2,.int .i64 v3,.string va,.string pt,.slice A l1 c,.slice A2 l2 c2,.slice A3 n c3,.slice A4 l4 c4] 76)) 9 #[.string nm]
  rwa [s1] at this
 have hx0:=x1.trans x2
 generalize hW0:(w.alloc (.cells #[.string pn,.int .i64 v1,.int .i64 v2,.int .i64 v3,.string va,.string pt,.slice A l1 c,.slice A2 l2 c2,.slice A3 n c3,.slice A4 l4 c4] 76)).alloc (.cells #[.string nm] 9)=W0 at *
 have HW0:=Hy hW0
 have e0:=b0.cell;have l0:=b0.lt;have e1:=b1.cell;have l1':=b1.lt
 clear hW0 x1 x2 s1
 have hEE:(E != E)=false:=by simp
 have hE11:(E1 != E1)=false:=by simp
 go_enter Tryz.func7,Tryz.ntmps7
 go_wp2_with fail
 rw[HW0.out]
 refine (CE.out _ hx0).mono ?_
 rintro e w1 ⟨rfl,hx1⟩
 have hxa:=hx0.trans hx1
 have b0:=b0.ext hx1;have b1:=b1.ext hx1
 have e0:=b0.cell;have l0:=b0.lt;have e1:=b1.cell;have l1':=b1.lt
 go_wp2_with fail
 refine (CM.out _ hxa).mono ?_
 rintro e w2 ⟨k1,n1,x1,B5,m1,d5,B6,d6,B7,d7,B8,d8,rfl,hin,hx2⟩
 have HIN:=Hy hin
 have hxb:=hxa.trans hx2
 have bR:=Blk.new w2 82 #[.string R.name,.string R.title,.bool R.dfl,.bool R.alw,.int .i64 k1,.string n1,.string x1,.slice B5 m1 d5,.slice B6 R.needs.length d6,.slice B7 R.items.length d7,.slice B8 R.steps.length d8]
 have x3:Ext w2 (w2.alloc (.cells #[.string R.name,.string R.title,.bool R.dfl,.bool R.alw,.int .i64 k1,.string n1,.string x1,.slice B5 m1 d5,.slice B6 R.needs.length d6,.slice B7 R.items.length d7,.slice B8 R.steps.length d8] 82)):=(Ext.refl w2).alloc _
 generalize hW3:w2.alloc (.cells #[.string R.name,.string R.title,.bool R.dfl,.bool R.alw,.int .i64 k1,.string n1,.string x1,.slice B5 m1 d5,.slice B6 R.needs.length d6,.slice B7 R.items.length d7,.slice B8 R.steps.length d8] 82)=W3 at *
 have HW3:=Hy hW3
 have hxc:=hxb.trans x3
 have b0:=b0.ext hx2;have b1:=b1.ext (hx2.trans x3)
 clear hW3 hin e0 l0 e1 l1'
 have e0:=b0.cell;have l0:=b0.lt
 have b0:=b0.ext x3
 go_wp2_with fail
 rw[HW3.out]
 refine (CI.out _ _ hxc (b1.cell 0)).mono ?_
 rintro e w4 ⟨rfl,hx4⟩
 have hxd:=hxc.trans hx4
 have b0:=b0.ext hx4;have bR:=bR.ext hx4
 clear e0 l0 b1
 go_wp2_with fail
 refine (CW.out _).mono ?_
 rintro e w' ⟨rfl,rfl⟩
 go_wp2_with fail
 refine (First_any _ _ [E1,X] _ ?_ (by simp)).mono ?_
 ·intro k hk
  rw[World.cell?_alloc_at _ _ _ _ rfl]
  match k,hk with
  | 0,_=>rfl
  | 1,_=>rfl
 rw[HF1.out]
 rintro e w' ⟨rfl,rfl⟩
 have x5:=(Ext.refl w4).alloc (.cells #[.int .i64 E1,.int .i64 X] 24)
 generalize w4.alloc (.cells #[.int .i64 E1,.int .i64 X] 24)=w5 at *
 have hxe:=hxd.trans x5
 have b0:=b0.ext x5;have bR:=bR.ext x5
 have HINR:=Hy (fun W (h:Ext w5 W)=>HIN.out.ext (x3.trans (hx4.trans (x5.trans h))))
 clear HIN hD CE CI CM CW
 have e0:=b0.cell;have l0:=b0.lt;have e1:=bR.cell;have l1':=bR.lt
 by_cases hE:E=0
 ·obtain⟨h1,k,hk,hK,hRk⟩:=HOKR.out hE
  subst hE h1 hK
  have hkl:k < l.length:=hk
  have hkn:k < n:=by rw[<-HN.out];exact hkl
  obtain⟨b,o,rfl,hX⟩:=(HR.out.ext hxe) (fun e=>by rw[e] at hkl;exact absurd hkl (Nat.not_lt_zero _))
  obtain⟨k0,n0,x0,A5,m5,c5,A6,c6,A7,c7,A8,c8,hrow⟩:=hX k hkl
  have LD:=fun W (h:Ext w5 W)=>load_Cm (hrow.ext h)
  have hRk':R=l[k]:=hRk
  have hsm:=HSM.out k hkl
  try dsimp only at hsm
  rw[<-hRk'] at LD hsm
  have CS:=Hy (fun W (h:Ext w5 W)=>samePart_same R k1 n1 x1 B5 m1 d5 B6 d6 B7 d7 B8 d8 k0 n0 x0 A5 m5 c5 A6 c6 A7 c7 A8 c8 W (HINR.out W h) (by have:=hrow.has.ext h;rwa [<-hRk'] at this) hsm)
  have hkc:k<=c3:=by omega
  have hmx:max (k:Int) 0=k:=by omega
  clear hX hrow hRk hRk' hsm hk HR HN HSM HOKR HER HINR
  dsimp only[cmV] at LD CS
  go_wp2_with fail
  refine wp_region_ext (by kernel_rfl) (by kernel_rfl) ?_
  repeat (first|go_big_quiet_skip|(refine wpQuiet_load (by rfl) _ _ rfl _ rfl _ LD ?_)|(refine wpQuiet_step (fun K hK=>?_);go_simp;first|(refine hK _ ?_;clear hK K)|(apply Exists.intro;refine⟨fun wq hwq=>?_,hK _ ?_⟩;(obtain⟨hqc,hqf⟩:=hwq.cells;have hqs:=hwq.size;(try go_simp);first|rfl|((first|rw[if_neg (by omega)]|rw[if_pos (by omega)]);(try go_simp);rfl)|((first|(go_at_call 47;exact (CP.out _ (hxe.trans hwq)).mono (fun e w'' h=>⟨h.1,hwq.trans h.2⟩))|(go_at_call 48;exact (CK.out _ (hxe.trans hwq)).mono (fun e w'' h=>⟨h.1,hwq.trans h.2⟩))|(go_at_call 49;exact (CS.out _ hwq).mono (fun e w'' h=>⟨h.1,hwq.trans h.2⟩)))));clear hK K)))
  refine wpQuiet_nil ?_
  intro wN hxN
  obtain⟨hcN,hfN⟩:=hxN.cells
  have hsN:=hxN.size
  clear LD CS
  have hxf:=hxe.trans hxN
  have b0:=b0.ext hxN
  clear e0 l0 e1 l1' bR hcN hfN hsN
  have e0:=b0.cell;have l0:=b0.lt
  go_wp2_with fail
  refine (CC.out _ hxf).mono ?_
  rintro e w6 ⟨A6,cc6,rfl,hc6,hr6,hx6⟩
  have hxg:=hxf.trans hx6
  have b0:=b0.ext hx6
  clear e0 l0
  have e0:=b0.cell;have l0:=b0.lt
  go_wp2_with fail
  refine (CH.out _ hxg).mono ?_
  rintro e w7 ⟨rfl,hx7⟩
  have hxh0:=hxg.trans hx7
  have b0:=b0.ext hx7
  clear e0 l0
  have e0:=b0.cell;have l0:=b0.lt
  obtain rfl:E2=E3:=HE3.out
  have h22:(E2 != E2)=false:=by simp
  by_cases h2:E2=0
  rotate_left
  ·have hne2:(E2 != 0)=true:=by rw[bne_iff_ne];exact h2
   have hne2':(E2==0)=false:=by rw[beq_eq_false_iff_ne];exact h2
   obtain rfl:=HCL0.out h2
   clear h2
   have hxh:=hxh0
   go_wp2_with fail
   refine (CA.out _ hxh).mono ?_
   rintro e w8 ⟨A8,cc8,rfl,hc8,hr8,hx8⟩
   have hxi:=hxh.trans hx8
   have b0:=b0.ext hx8
   clear e0 l0
   have e0:=b0.cell;have l0:=b0.lt
   go_wp2_with fail
   refine (CD.out _ hxi).mono ?_
   rintro e w9 ⟨A9,cc9,rfl,hc9,hr9,hx9⟩
   have hxj:=hxi.trans hx9
   have b0:=b0.ext hx9
   clear e0 l0
   have e0:=b0.cell;have l0:=b0.lt
   go_wp2_with fail
   refine (CLF.out _ hxj).mono ?_
   rintro e w10 ⟨rfl,hx10⟩
   go_wp2_with fail
   refine (CLS.out _ (hxj.trans hx10)).mono ?_
   rintro e w11 ⟨rfl,hx11⟩
   go_wp2_with fail
   refine (First_any _ _ [0,F1,F2] _ ?_ (by simp)).mono ?_
   ·intro k hk
    rw[World.cell?_alloc_at _ _ _ _ rfl]
    match k,hk with
    | 0,_=>rfl
    | 1,_=>rfl
    | 2,_=>rfl
   rw[HF2.out]
   rintro e w' ⟨rfl,rfl⟩
   have x12:=(hx10.trans hx11).alloc (.cells #[.int .i64 0,.int .i64 F1,.int .i64 F2] 24)
   generalize w11.alloc (.cells #[.int .i64 0,.int .i64 F1,.int .i64 F2] 24)=w12 at *
   have hxk:=hxj.trans x12
   have b0:=b0.ext x12
   clear e0 l0 hx10 hx11
   have e0:=b0.cell;have l0:=b0.lt
   by_cases h4:E4=0
   rotate_left
   ·skip
    have hne4:(E4 != 0)=true:=by rw[bne_iff_ne];exact h4
    obtain⟨rfl,rfl⟩:=HAL0.out h4
    clear h4
    have h44:(E4==E4)=true:=by simp
    go_wp2
    go_ret
    exact⟨by simp,hxk⟩
   ·skip
    subst h4
    obtain⟨⟨hm2,hl2'⟩,hm3,hl3'⟩:=HAL1.out (by trivial)
    subst hm2 hm3
    have HR8:=Hy (hr8.ext (hx9.trans x12));have HR9:=Hy (hr9.ext x12)
    clear hr8 hr9
    go_wp2_with fail
    refine (CF1.out _ hxk).mono ?_
    rintro e w13 ⟨rfl,hm1,hx13⟩
    go_wp2_with fail
    refine (CF2.out _ (hxk.trans hx13)).mono ?_
    rintro e w14 ⟨rfl,hm2,hx14⟩
    have HM1:=Hy (hm1.ext hx14);have HM2:=Hy hm2
    have x14:=hx13.trans hx14
    have hxl:=hxk.trans x14
    have b0:=b0.ext x14
    clear e0 l0 hm1 hm2
    have e0:=b0.cell;have l0:=b0.lt
    go_wp2_with fail
    refine (CAO.out (by trivial) _ _ _ hxl HM1.out HM2.out).mono ?_
    rintro e w15 ⟨v15,B15,rfl,hB15,hown15,hx15⟩
    obtain⟨A15,c15,rfl,hcc15,hr15⟩:=RdX.own hown15 rfl
    have hxm:=hxl.trans hx15
    have b0:=b0.ext hx15
    have CQ:=Hy (EqualX_same A8 A15 cc8 c15 _ L2 w15 rfl (HR8.out.ext (x14.trans hx15)) hr15 hl2')
    clear e0 l0 hown15 hr15
    have e0:=b0.cell;have l0:=b0.lt
    go_wp2_with fail
    refine CQ.out.mono ?_
    rintro e w16 ⟨rfl,hx16⟩
    have hxn:=hxm.trans hx16
    have b0:=b0.ext hx16
    clear e0 l0 CQ
    have e0:=b0.cell;have l0:=b0.lt
    go_wp2_with fail
    refine (CDO.out (by trivial) _ _ _ hxn (HM1.out.ext (hx15.trans hx16)) (HM2.out.ext (hx15.trans hx16))).mono ?_
    rintro e w17 ⟨A17,c17,rfl,hr17,hx17⟩
    have hxo:=hxn.trans hx17
    have CQ:=Hy (EqualX_same A9 A17 cc9 c17 _ L3 w17 rfl (HR9.out.ext (x14.trans (hx15.trans (hx16.trans hx17)))) hr17 hl3')
    clear e0 l0 hr17 b0
    go_wp2_with fail
    refine CQ.out.mono ?_
    rintro e w18 ⟨rfl,hx18⟩
    go_wp2
    go_ret
    exact⟨by simp,hxo.trans hx18⟩
  ·subst h2
   obtain⟨hm1,hl1'⟩:=HCL1.out (by trivial)
   subst hm1
   have HR6:=Hy (hr6.ext hx7)
   clear hr6
   go_wp2_with fail
   refine (CO.out (by trivial) (by trivial) _ hxh0).mono ?_
   rintro e w71 ⟨A71,c71,rfl,hc71,hr71,hx71⟩
   have CQ:=Hy (EqualX_same A6 A71 cc6 c71 _ L1 w71 rfl (HR6.out.ext hx71) hr71 hl1')
   have b0:=b0.ext hx71
   clear e0 l0 hr71
   have e0:=b0.cell;have l0:=b0.lt
   go_wp2_with fail
   refine CQ.out.mono ?_
   rintro e w72 ⟨rfl,hx72⟩
   have hxh:=hxh0.trans (hx71.trans hx72)
   have b0:=b0.ext hx72
   clear e0 l0 CQ
   have e0:=b0.cell;have l0:=b0.lt
   go_wp2_with fail
   refine (CA.out _ hxh).mono ?_
   rintro e w8 ⟨A8,cc8,rfl,hc8,hr8,hx8⟩
   have hxi:=hxh.trans hx8
   have b0:=b0.ext hx8
   clear e0 l0
   have e0:=b0.cell;have l0:=b0.lt
   go_wp2_with fail
   refine (CD.out _ hxi).mono ?_
   rintro e w9 ⟨A9,cc9,rfl,hc9,hr9,hx9⟩
   have hxj:=hxi.trans hx9
   have b0:=b0.ext hx9
   clear e0 l0
   have e0:=b0.cell;have l0:=b0.lt
   go_wp2_with fail
   refine (CLF.out _ hxj).mono ?_
   rintro e w10 ⟨rfl,hx10⟩
   go_wp2_with fail
   refine (CLS.out _ (hxj.trans hx10)).mono ?_
   rintro e w11 ⟨rfl,hx11⟩
   go_wp2_with fail
   refine (First_any _ _ [0,F1,F2] _ ?_ (by simp)).mono ?_
   ·intro k hk
    rw[World.cell?_alloc_at _ _ _ _ rfl]
    match k,hk with
    | 0,_=>rfl
    | 1,_=>rfl
    | 2,_=>rfl
   rw[HF2.out]
   rintro e w' ⟨rfl,rfl⟩
   have x12:=(hx10.trans hx11).alloc (.cells #[.int .i64 0,.int .i64 F1,.int .i64 F2] 24)
   generalize w11.alloc (.cells #[.int .i64 0,.int .i64 F1,.int .i64 F2] 24)=w12 at *
   have hxk:=hxj.trans x12
   have b0:=b0.ext x12
   clear e0 l0 hx10 hx11
   have e0:=b0.cell;have l0:=b0.lt
   by_cases h4:E4=0
   rotate_left
   ·skip
    have hne4:(E4 != 0)=true:=by rw[bne_iff_ne];exact h4
    obtain⟨rfl,rfl⟩:=HAL0.out h4
    clear h4
    have h44:(E4==E4)=true:=by simp
    go_wp2
    go_ret
    exact⟨by simp,hxk⟩
   ·skip
    subst h4
    obtain⟨⟨hm2,hl2'⟩,hm3,hl3'⟩:=HAL1.out (by trivial)
    subst hm2 hm3
    have HR8:=Hy (hr8.ext (hx9.trans x12));have HR9:=Hy (hr9.ext x12)
    clear hr8 hr9
    go_wp2_with fail
    refine (CF1.out _ hxk).mono ?_
    rintro e w13 ⟨rfl,hm1,hx13⟩
    go_wp2_with fail
    refine (CF2.out _ (hxk.trans hx13)).mono ?_
    rintro e w14 ⟨rfl,hm2,hx14⟩
    have HM1:=Hy (hm1.ext hx14);have HM2:=Hy hm2
    have x14:=hx13.trans hx14
    have hxl:=hxk.trans x14
    have b0:=b0.ext x14
    clear e0 l0 hm1 hm2
    have e0:=b0.cell;have l0:=b0.lt
    go_wp2_with fail
    refine (CAO.out (by trivial) _ _ _ hxl HM1.out HM2.out).mono ?_
    rintro e w15 ⟨v15,B15,rfl,hB15,hown15,hx15⟩
    obtain⟨A15,c15,rfl,hcc15,hr15⟩:=RdX.own hown15 rfl
    have hxm:=hxl.trans hx15
    have b0:=b0.ext hx15
    have CQ:=Hy (EqualX_same A8 A15 cc8 c15 _ L2 w15 rfl (HR8.out.ext (x14.trans hx15)) hr15 hl2')
    clear e0 l0 hown15 hr15
    have e0:=b0.cell;have l0:=b0.lt
    go_wp2_with fail
    refine CQ.out.mono ?_
    rintro e w16 ⟨rfl,hx16⟩
    have hxn:=hxm.trans hx16
    have b0:=b0.ext hx16
    clear e0 l0 CQ
    have e0:=b0.cell;have l0:=b0.lt
    go_wp2_with fail
    refine (CDO.out (by trivial) _ _ _ hxn (HM1.out.ext (hx15.trans hx16)) (HM2.out.ext (hx15.trans hx16))).mono ?_
    rintro e w17 ⟨A17,c17,rfl,hr17,hx17⟩
    have hxo:=hxn.trans hx17
    have CQ:=Hy (EqualX_same A9 A17 cc9 c17 _ L3 w17 rfl (HR9.out.ext (x14.trans (hx15.trans (hx16.trans hx17)))) hr17 hl3')
    clear e0 l0 hr17 b0
    go_wp2_with fail
    refine CQ.out.mono ?_
    rintro e w18 ⟨rfl,hx18⟩
    go_wp2
    go_ret
    exact⟨by simp,hxo.trans hx18⟩
 ·have hRz:=HER.out hE
  have CS:=Hy (fun W (h:Ext w5 W)=>show Calls Tryz.prog 49 #[cmV R k1 n1 x1 B5 m1 d5 B6 d6 B7 d7 B8 d8,(.agg #[.string ⟨#[]⟩,.string ⟨#[]⟩,.bool false,.bool false,.int .i64 0,.string ⟨#[]⟩,.string ⟨#[]⟩,.slice none 0 0,.slice none 0 0,.slice none 0 0,.slice none 0 0])] W fun e w'=>e=.returned (.bool true)∧Ext W w' from by
   have hi:=HINR.out W h
   rw[hRz] at hi ⊢
   exact samePart_same zeroP k1 n1 x1 B5 m1 d5 B6 d6 B7 d7 B8 d8 0 ⟨#[]⟩ ⟨#[]⟩ none 0 0 none 0 none 0 none 0 W hi (zeroP_in W) zeroP_small)
  have hneE:(E != 0)=true:=by rw[bne_iff_ne];exact hE
  have hneE':(E==0)=false:=by rw[beq_eq_false_iff_ne];exact hE
  clear hE hRz HR HN HSM HOKR HER HINR
  dsimp only[cmV] at CS
  go_wp2_with fail
  refine wp_region_ext (by kernel_rfl) (by kernel_rfl) ?_
  repeat (first|go_big_quiet_skip|(refine wpQuiet_step (fun K hK=>?_);go_simp;first|(refine hK _ ?_;clear hK K)|(apply Exists.intro;refine⟨fun wq hwq=>?_,hK _ ?_⟩;(obtain⟨hqc,hqf⟩:=hwq.cells;have hqs:=hwq.size;(try go_simp);first|rfl|((first|rw[if_neg (by omega)]|rw[if_pos (by omega)]);(try go_simp);rfl)|((first|(go_at_call 47;exact (CP.out _ (hxe.trans hwq)).mono (fun e w'' h=>⟨h.1,hwq.trans h.2⟩))|(go_at_call 48;exact (CK.out _ (hxe.trans hwq)).mono (fun e w'' h=>⟨h.1,hwq.trans h.2⟩))|(go_at_call 49;exact (CS.out _ hwq).mono (fun e w'' h=>⟨h.1,hwq.trans h.2⟩)))));clear hK K)))
  refine wpQuiet_nil ?_
  intro wN hxN
  obtain⟨hcN,hfN⟩:=hxN.cells
  have hsN:=hxN.size
  clear CS
  have hxf:=hxe.trans hxN
  have b0:=b0.ext hxN
  clear e0 l0 e1 l1' bR hcN hfN hsN
  have e0:=b0.cell;have l0:=b0.lt
  by_cases h1:E1=0
  ·subst h1
   go_wp2_with fail
   refine (CC.out _ hxf).mono ?_
   rintro e w6 ⟨A6,cc6,rfl,hc6,hr6,hx6⟩
   have hxg:=hxf.trans hx6
   have b0:=b0.ext hx6
   clear e0 l0
   have e0:=b0.cell;have l0:=b0.lt
   go_wp2_with fail
   refine (CH.out _ hxg).mono ?_
   rintro e w7 ⟨rfl,hx7⟩
   have hxh0:=hxg.trans hx7
   have b0:=b0.ext hx7
   clear e0 l0
   have e0:=b0.cell;have l0:=b0.lt
   obtain rfl:E2=E3:=HE3.out
   have h22:(E2 != E2)=false:=by simp
   by_cases h2:E2=0
   rotate_left
   ·have hne2:(E2 != 0)=true:=by rw[bne_iff_ne];exact h2
    have hne2':(E2==0)=false:=by rw[beq_eq_false_iff_ne];exact h2
    obtain rfl:=HCL0.out h2
    clear h2
    have hxh:=hxh0
    go_wp2_with fail
    refine (CA.out _ hxh).mono ?_
    rintro e w8 ⟨A8,cc8,rfl,hc8,hr8,hx8⟩
    have hxi:=hxh.trans hx8
    have b0:=b0.ext hx8
    clear e0 l0
    have e0:=b0.cell;have l0:=b0.lt
    go_wp2_with fail
    refine (CD.out _ hxi).mono ?_
    rintro e w9 ⟨A9,cc9,rfl,hc9,hr9,hx9⟩
    have hxj:=hxi.trans hx9
    have b0:=b0.ext hx9
    clear e0 l0
    have e0:=b0.cell;have l0:=b0.lt
    go_wp2_with fail
    refine (CLF.out _ hxj).mono ?_
    rintro e w10 ⟨rfl,hx10⟩
    go_wp2_with fail
    refine (CLS.out _ (hxj.trans hx10)).mono ?_
    rintro e w11 ⟨rfl,hx11⟩
    go_wp2_with fail
    refine (First_any _ _ [0,F1,F2] _ ?_ (by simp)).mono ?_
    ·intro k hk
     rw[World.cell?_alloc_at _ _ _ _ rfl]
     match k,hk with
     | 0,_=>rfl
     | 1,_=>rfl
     | 2,_=>rfl
    rw[HF2.out]
    rintro e w' ⟨rfl,rfl⟩
    have x12:=(hx10.trans hx11).alloc (.cells #[.int .i64 0,.int .i64 F1,.int .i64 F2] 24)
    generalize w11.alloc (.cells #[.int .i64 0,.int .i64 F1,.int .i64 F2] 24)=w12 at *
    have hxk:=hxj.trans x12
    have b0:=b0.ext x12
    clear e0 l0 hx10 hx11
    have e0:=b0.cell;have l0:=b0.lt
    by_cases h4:E4=0
    rotate_left
    ·skip
     have hne4:(E4 != 0)=true:=by rw[bne_iff_ne];exact h4
     obtain⟨rfl,rfl⟩:=HAL0.out h4
     clear h4
     have h44:(E4==E4)=true:=by simp
     go_wp2
     go_ret
     exact⟨by simp,hxk⟩
    ·skip
     subst h4
     obtain⟨⟨hm2,hl2'⟩,hm3,hl3'⟩:=HAL1.out (by trivial)
     subst hm2 hm3
     have HR8:=Hy (hr8.ext (hx9.trans x12));have HR9:=Hy (hr9.ext x12)
     clear hr8 hr9
     go_wp2_with fail
     refine (CF1.out _ hxk).mono ?_
     rintro e w13 ⟨rfl,hm1,hx13⟩
     go_wp2_with fail
     refine (CF2.out _ (hxk.trans hx13)).mono ?_
     rintro e w14 ⟨rfl,hm2,hx14⟩
     have HM1:=Hy (hm1.ext hx14);have HM2:=Hy hm2
     have x14:=hx13.trans hx14
     have hxl:=hxk.trans x14
     have b0:=b0.ext x14
     clear e0 l0 hm1 hm2
     have e0:=b0.cell;have l0:=b0.lt
     go_wp2_with fail
     refine (CAO.out (by trivial) _ _ _ hxl HM1.out HM2.out).mono ?_
     rintro e w15 ⟨v15,B15,rfl,hB15,hown15,hx15⟩
     obtain⟨A15,c15,rfl,hcc15,hr15⟩:=RdX.own hown15 rfl
     have hxm:=hxl.trans hx15
     have b0:=b0.ext hx15
     have CQ:=Hy (EqualX_same A8 A15 cc8 c15 _ L2 w15 rfl (HR8.out.ext (x14.trans hx15)) hr15 hl2')
     clear e0 l0 hown15 hr15
     have e0:=b0.cell;have l0:=b0.lt
     go_wp2_with fail
     refine CQ.out.mono ?_
     rintro e w16 ⟨rfl,hx16⟩
     have hxn:=hxm.trans hx16
     have b0:=b0.ext hx16
     clear e0 l0 CQ
     have e0:=b0.cell;have l0:=b0.lt
     go_wp2_with fail
     refine (CDO.out (by trivial) _ _ _ hxn (HM1.out.ext (hx15.trans hx16)) (HM2.out.ext (hx15.trans hx16))).mono ?_
     rintro e w17 ⟨A17,c17,rfl,hr17,hx17⟩
     have hxo:=hxn.trans hx17
     have CQ:=Hy (EqualX_same A9 A17 cc9 c17 _ L3 w17 rfl (HR9.out.ext (x14.trans (hx15.trans (hx16.trans hx17)))) hr17 hl3')
     clear e0 l0 hr17 b0
     go_wp2_with fail
     refine CQ.out.mono ?_
     rintro e w18 ⟨rfl,hx18⟩
     go_wp2
     go_ret
     exact⟨by simp,hxo.trans hx18⟩
   ·subst h2
    obtain⟨hm1,hl1'⟩:=HCL1.out (by trivial)
    subst hm1
    have HR6:=Hy (hr6.ext hx7)
    clear hr6
    go_wp2_with fail
    refine (CO.out (by trivial) (by trivial) _ hxh0).mono ?_
    rintro e w71 ⟨A71,c71,rfl,hc71,hr71,hx71⟩
    have CQ:=Hy (EqualX_same A6 A71 cc6 c71 _ L1 w71 rfl (HR6.out.ext hx71) hr71 hl1')
    have b0:=b0.ext hx71
    clear e0 l0 hr71
    have e0:=b0.cell;have l0:=b0.lt
    go_wp2_with fail
    refine CQ.out.mono ?_
    rintro e w72 ⟨rfl,hx72⟩
    have hxh:=hxh0.trans (hx71.trans hx72)
    have b0:=b0.ext hx72
    clear e0 l0 CQ
    have e0:=b0.cell;have l0:=b0.lt
    go_wp2_with fail
    refine (CA.out _ hxh).mono ?_
    rintro e w8 ⟨A8,cc8,rfl,hc8,hr8,hx8⟩
    have hxi:=hxh.trans hx8
    have b0:=b0.ext hx8
    clear e0 l0
    have e0:=b0.cell;have l0:=b0.lt
    go_wp2_with fail
    refine (CD.out _ hxi).mono ?_
    rintro e w9 ⟨A9,cc9,rfl,hc9,hr9,hx9⟩
    have hxj:=hxi.trans hx9
    have b0:=b0.ext hx9
    clear e0 l0
    have e0:=b0.cell;have l0:=b0.lt
    go_wp2_with fail
    refine (CLF.out _ hxj).mono ?_
    rintro e w10 ⟨rfl,hx10⟩
    go_wp2_with fail
    refine (CLS.out _ (hxj.trans hx10)).mono ?_
    rintro e w11 ⟨rfl,hx11⟩
    go_wp2_with fail
    refine (First_any _ _ [0,F1,F2] _ ?_ (by simp)).mono ?_
    ·intro k hk
     rw[World.cell?_alloc_at _ _ _ _ rfl]
     match k,hk with
     | 0,_=>rfl
     | 1,_=>rfl
     | 2,_=>rfl
    rw[HF2.out]
    rintro e w' ⟨rfl,rfl⟩
    have x12:=(hx10.trans hx11).alloc (.cells #[.int .i64 0,.int .i64 F1,.int .i64 F2] 24)
    generalize w11.alloc (.cells #[.int .i64 0,.int .i64 F1,.int .i64 F2] 24)=w12 at *
    have hxk:=hxj.trans x12
    have b0:=b0.ext x12
    clear e0 l0 hx10 hx11
    have e0:=b0.cell;have l0:=b0.lt
    by_cases h4:E4=0
    rotate_left
    ·skip
     have hne4:(E4 != 0)=true:=by rw[bne_iff_ne];exact h4
     obtain⟨rfl,rfl⟩:=HAL0.out h4
     clear h4
     have h44:(E4==E4)=true:=by simp
     go_wp2
     go_ret
     exact⟨by simp,hxk⟩
    ·skip
     subst h4
     obtain⟨⟨hm2,hl2'⟩,hm3,hl3'⟩:=HAL1.out (by trivial)
     subst hm2 hm3
     have HR8:=Hy (hr8.ext (hx9.trans x12));have HR9:=Hy (hr9.ext x12)
     clear hr8 hr9
     go_wp2_with fail
     refine (CF1.out _ hxk).mono ?_
     rintro e w13 ⟨rfl,hm1,hx13⟩
     go_wp2_with fail
     refine (CF2.out _ (hxk.trans hx13)).mono ?_
     rintro e w14 ⟨rfl,hm2,hx14⟩
     have HM1:=Hy (hm1.ext hx14);have HM2:=Hy hm2
     have x14:=hx13.trans hx14
     have hxl:=hxk.trans x14
     have b0:=b0.ext x14
     clear e0 l0 hm1 hm2
     have e0:=b0.cell;have l0:=b0.lt
     go_wp2_with fail
     refine (CAO.out (by trivial) _ _ _ hxl HM1.out HM2.out).mono ?_
     rintro e w15 ⟨v15,B15,rfl,hB15,hown15,hx15⟩
     obtain⟨A15,c15,rfl,hcc15,hr15⟩:=RdX.own hown15 rfl
     have hxm:=hxl.trans hx15
     have b0:=b0.ext hx15
     have CQ:=Hy (EqualX_same A8 A15 cc8 c15 _ L2 w15 rfl (HR8.out.ext (x14.trans hx15)) hr15 hl2')
     clear e0 l0 hown15 hr15
     have e0:=b0.cell;have l0:=b0.lt
     go_wp2_with fail
     refine CQ.out.mono ?_
     rintro e w16 ⟨rfl,hx16⟩
     have hxn:=hxm.trans hx16
     have b0:=b0.ext hx16
     clear e0 l0 CQ
     have e0:=b0.cell;have l0:=b0.lt
     go_wp2_with fail
     refine (CDO.out (by trivial) _ _ _ hxn (HM1.out.ext (hx15.trans hx16)) (HM2.out.ext (hx15.trans hx16))).mono ?_
     rintro e w17 ⟨A17,c17,rfl,hr17,hx17⟩
     have hxo:=hxn.trans hx17
     have CQ:=Hy (EqualX_same A9 A17 cc9 c17 _ L3 w17 rfl (HR9.out.ext (x14.trans (hx15.trans (hx16.trans hx17)))) hr17 hl3')
     clear e0 l0 hr17 b0
     go_wp2_with fail
     refine CQ.out.mono ?_
     rintro e w18 ⟨rfl,hx18⟩
     go_wp2
     go_ret
     exact⟨by simp,hxo.trans hx18⟩
  ·skip
   have hne1:(E1 != 0)=true:=by rw[bne_iff_ne];exact h1
   have hne1':(E1==0)=false:=by rw[beq_eq_false_iff_ne];exact h1
   obtain rfl:E3=E1:=HE3.out.symm.trans (if_neg h1)
   have h33:(E3 != E3)=false:=by simp
   obtain rfl:=HCL0.out h1
   go_wp2_with fail
   refine (CC.out _ hxf).mono ?_
   rintro e w6 ⟨A6,cc6,rfl,hc6,hr6,hx6⟩
   have hxg:=hxf.trans hx6
   have b0:=b0.ext hx6
   clear e0 l0
   have e0:=b0.cell;have l0:=b0.lt
   have hxh:=hxg
   go_wp2_with fail
   refine (CA.out _ hxh).mono ?_
   rintro e w8 ⟨A8,cc8,rfl,hc8,hr8,hx8⟩
   have hxi:=hxh.trans hx8
   have b0:=b0.ext hx8
   clear e0 l0
   have e0:=b0.cell;have l0:=b0.lt
   go_wp2_with fail
   refine (CD.out _ hxi).mono ?_
   rintro e w9 ⟨A9,cc9,rfl,hc9,hr9,hx9⟩
   have hxj:=hxi.trans hx9
   have b0:=b0.ext hx9
   clear e0 l0
   have e0:=b0.cell;have l0:=b0.lt
   go_wp2_with fail
   refine (CLF.out _ hxj).mono ?_
   rintro e w10 ⟨rfl,hx10⟩
   go_wp2_with fail
   refine (CLS.out _ (hxj.trans hx10)).mono ?_
   rintro e w11 ⟨rfl,hx11⟩
   go_wp2_with fail
   refine (First_any _ _ [E3,F1,F2] _ ?_ (by simp)).mono ?_
   ·intro k hk
    rw[World.cell?_alloc_at _ _ _ _ rfl]
    match k,hk with
    | 0,_=>rfl
    | 1,_=>rfl
    | 2,_=>rfl
   rw[HF2.out]
   rintro e w' ⟨rfl,rfl⟩
   have x12:=(hx10.trans hx11).alloc (.cells #[.int .i64 E3,.int .i64 F1,.int .i64 F2] 24)
   generalize w11.alloc (.cells #[.int .i64 E3,.int .i64 F1,.int .i64 F2] 24)=w12 at *
   have hxk:=hxj.trans x12
   have b0:=b0.ext x12
   clear e0 l0 hx10 hx11
   have e0:=b0.cell;have l0:=b0.lt
   have h4:¬ E4=0:=HE4.out h1
   have hne4:(E4 != 0)=true:=by rw[bne_iff_ne];exact h4
   obtain⟨rfl,rfl⟩:=HAL0.out h4
   clear h4
   have h44:(E4==E4)=true:=by simp
   go_wp2
   go_ret
   exact⟨by simp,hxk⟩
end Go.Proofs.YtmpccllnpcbgcaaGreatDoor
