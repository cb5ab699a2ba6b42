/- Contract of pack.Component. (Printed by gen/qba.py.) -/
import Derived.Test.YtmpccllnpcbgcaaGreatDoorPk46
namespace Go.Proofs.YtmpccllnpcbgcaaGreatDoor
open Go.RowKit
noncomputable def compE (p:Pkg) (nm:ByteArray):Int:=f2 (pkErr p) (if cmpAt p.comps nm < 0 then 10 else 0)
noncomputable def compR (p:Pkg) (nm:ByteArray):Cmp:=if compE p nm=0 then p.comps.getD (cmpAt p.comps nm).toNat zeroP else zeroP
theorem zeroC_in (P:Nat->Prop) (w:World):CdIn P w zeroC (.agg #[.int .i64 0,.string ⟨#[]⟩,.string ⟨#[]⟩,.slice none 0 0]) :=
 CdIn.mk 0 ⟨#[]⟩ ⟨#[]⟩ [] none 0 0 0 (fun _=>.bool false) (fun _=>.bool false) (fun _=>.bool false) (fun _=>.bool false) (fun h=>absurd h (Nat.lt_irrefl _)) (fun h=>absurd h (Nat.lt_irrefl _)) (fun _ h=>absurd h (Nat.not_lt_zero _)) (fun _ h=>absurd h (Nat.not_lt_zero _)) (fun _ h=>absurd h (Nat.not_lt_zero _)) (fun _ h=>absurd h (Nat.not_lt_zero _)) (fun _ h=>absurd h (Nat.not_lt_zero _))
theorem zeroP_in (w:World):CmIn w zeroP 0 ⟨#[]⟩ ⟨#[]⟩ none 0 0 none 0 none 0 none 0 :=
 ⟨zeroC_in _ w,fun h=>absurd rfl h,fun h=>absurd rfl h,fun h=>absurd rfl h,Nat.le_refl _,Nat.le_refl _,Nat.le_refl _⟩
theorem comp_a {p:Pkg} {nm:ByteArray} (h:¬ pkErr p=0):compE p nm=pkErr p∧compR p nm=zeroP:=by
 have e:compE p nm=pkErr p:=if_neg h
 exact⟨e,if_neg (by rw[e];exact h)⟩
theorem comp_b {p:Pkg} {nm:ByteArray} (h:pkErr p=0) (h2:cmpAt p.comps nm=-1):compE p nm=10∧compR p nm=zeroP:=by
 have e:compE p nm=10:=by unfold compE;rw[f2,if_pos h,h2];rfl
 exact⟨e,if_neg (by rw[e];decide)⟩
theorem comp_c {p:Pkg} {nm:ByteArray} (h:pkErr p=0) {k:Nat} (hk:k < p.comps.length) (h2:cmpAt p.comps nm=k):compE p nm=0∧compR p nm=p.comps[k]:=by
 have e:compE p nm=0:=by unfold compE;rw[f2,if_pos h,h2,if_neg (by omega)]
 exact⟨e,by unfold compR;rw[if_pos e,h2];exact getD_cm hk⟩
set_option maxHeartbeats 2000000 in
set_option maxRecDepth 100000 in
theorem Component_any (p:Pkg) (A:Option Addr) (c:Nat) (A2:Option Addr) (c2:Nat) (A3:Option Addr) (c3:Nat) (A4:Option Addr) (c4:Nat) (nm:ByteArray) (w:World) (hg:GoodN w) (hp:PkIn w p A c A2 c2 A3 c3 A4 c4) (hs:SmallP p) :
 Calls Tryz.prog 43 #[pkV p A c A2 c2 A3 c3 A4 c4,.string nm] w fun e w'=>∃ k1 n1 x1 B5 l5 d5 B6 d6 B7 d7 B8 d8,e=.returned (.tuple #[cmV (compR p nm) k1 n1 x1 B5 l5 d5 B6 d6 B7 d7 B8 d8,.int .i64 (compE p nm)])∧CmIn w' (compR p nm) k1 n1 x1 B5 l5 d5 B6 d6 B7 d7 B8 d8∧Ext w w':=by
 have CC:=Hy (fun W (h:Ext w W)=>PCheck_any p A c A2 c2 A3 c3 A4 c4 W (hg.ext h) (hp.ext h) hs)
 have CA:=Hy (fun W (h:Ext w W)=>at_any #[.string p.name,.int .i64 p.vv.a1,.int .i64 p.vv.a2,.int .i64 p.vv.a3,.string p.vv.a,.string p.title,.slice A p.needs.length c,.slice A2 p.bars.length c2,.slice A3 p.comps.length c3,.slice A4 p.moves.length c4] p.comps A3 p.comps.length c3 nm W rfl rfl rfl (hp.comps.ext h) hs.clen)
 have CL:=Hy (fun (h0:pkErr p=0) k (hk:k < p.comps.length) W k0 n0 x0 A5 m5 c5 A6 c6 A7 c7 A8 c8 (h:CmIn W p.comps[k] k0 n0 x0 A5 m5 c5 A6 c6 A7 c7 A8 c8)=>cloneComponent_any p.comps[k] k0 n0 x0 A5 m5 c5 A6 c6 A7 c7 A8 c8 W h (hs.comps _ (List.getElem_mem hk)) (Nat.le_trans (check_cnt (pk_check h0 _ (List.getElem_mem hk))) (by decide)))
 have HR:=Hy hp.comps
 have HAC:=Hy (cmpAt_cases p.comps nm)
 have HA:=Hy (comp_a (p:=p) (nm:=nm))
 have HB:=Hy (comp_b (p:=p) (nm:=nm))
 have HC:=Hy (fun h {k:Nat} (hk:k < p.comps.length)=>comp_c (p:=p) (nm:=nm) h hk)
 have hcap:=hp.cap.2.2.1
 have hcl:=hs.clen
 clear hg hp hs
 generalize compE p nm=E at *
 generalize compR p nm=R at *
 generalize pkErr p=E1 at *
 generalize hK:cmpAt p.comps nm=K at *
 clear hK
 obtain⟨pn,⟨v1,v2,v3,va⟩,pt,pe,pb,l,pm⟩:=p
 dsimp only[pkV] at *
 generalize pe.length=l1 at *
 generalize pb.length=l2 at *
 generalize pm.length=l4 at *
 generalize hn:l.length=n at CC CA hcap hcl ⊢
 have HN:=Hy hn
 clear hn
 have x1:Ext w (w.alloc (.cells #[.string pn,.int .i64 v1,.int .i64 v2,.int .i64 v3,.string va,.string pt,.slice A l1 c,.slice A2 l2 c2,.slice A3 n c3,.slice A4 l4 c4] 76)):=(Ext.refl w).alloc _
 have x2:Ext (w.alloc (.cells #[.string pn,.int .i64 v1,.int .i64 v2,.int .i64 v3,.string va,.string pt,.slice A l1 c,.slice A2 l2 c2,.slice A3 n c3,.slice A4 l4 c4] 76)) ((w.alloc (.cells #[.string pn,.int .i64 v1,.int .i64 v2,.int .i64 v3,.string va,.string pt,.slice A l1 c,.slice A2 l2 c2,.slice A3 n c3,.slice A4 l4 c4] 76)).alloc (.cells #[.string ⟨#[]⟩,.string ⟨#[]⟩,.bool false,.bool false,.int .i64 0,.string ⟨#[]⟩,.string ⟨#[]⟩,.slice none 0 0,.slice none 0 0,.slice none 0 0,.slice none 0 0] 82)):=(Ext.refl _).alloc _
 have s1:(w.alloc (.cells #[.string pn,.int .i64 v1,.int .i64 v2,.int .i64 v3,.string va,.string pt,.slice A l1 c,.slice A2 l2 c2,.slice A3 n c3,.slice A4 l4 c4] 76)).heap.size=w.heap.size+1:=World.size_alloc _ _
 have b0:Blk ((w.alloc (.cells #[.string pn,.int .i64 v1,.int .i64 v2,.int .i64 v3,.string va,.string pt,.slice A l1 c,.slice A2 l2 c2,.slice A3 n c3,.slice A4 l4 c4] 76)).alloc (.cells #[.string ⟨#[]⟩,.string ⟨#[]⟩,.bool false,.bool false,.int .i64 0,.string ⟨#[]⟩,.string ⟨#[]⟩,.slice none 0 0,.slice none 0 0,.slice none 0 0,.slice none 0 0] 82)) w.heap.size 76 #[.string pn,.int .i64 v1,.int .i64 v2,.int .i64 v3,.string va,.string pt,.slice A l1 c,.slice A2 l2 c2,.slice A3 n c3,.slice A4 l4 c4]:=(Blk.new w _ _).ext x2
 have b1:Blk ((w.alloc (.cells #[.string pn,.int .i64 v1,.int .i64 v2,.int .i64 v3,.string va,.string pt,.slice A l1 c,.slice A2 l2 c2,.slice A3 n c3,.slice A4 l4 c4] 76)).alloc (.cells #[.string ⟨#[]⟩,.string ⟨#[]⟩,.bool false,.bool false,.int .i64 0,.string ⟨#[]⟩,.string ⟨#[]⟩,.slice none 0 0,.slice none 0 0,.slice none 0 0,.slice none 0 0] 82)) (w.heap.size+1) 82 #[.string ⟨#[]⟩,.string ⟨#[]⟩,.bool false,.bool false,.int .i64 0,.string ⟨#[]⟩,.string ⟨#[]⟩,.slice none 0 0,.slice none 0 0,.slice none 0 0,.slice none 0 0]:=by
  have:=Blk.new (w.alloc (.cells #[.string pn,.int .i64 v1,.int .i64 v2,.int .i64 v3,.string va,.string pt,.slice A l1 c,.slice A2 l2 c2,.slice A3 n c3,.slice A4 l4 c4] 76)) 82 #[.string ⟨#[]⟩,.string ⟨#[]⟩,.bool false,.bool false,.int .i64 0,.string ⟨#[]⟩,.string ⟨#[]⟩,.slice none 0 0,.slice none 0 0,.slice none 0 0,.slice none 0 0]
  rwa [s1] at this
 have hx0:=x1.trans x2
 have s2:((w.alloc (.cells #[.string pn,.int .i64 v1,.int .i64 v2,.int .i64 v3,.string va,.string pt,.slice A l1 c,.slice A2 l2 c2,.slice A3 n c3,.slice A4 l4 c4] 76)).alloc (.cells #[.string ⟨#[]⟩,.string ⟨#[]⟩,.bool false,.bool false,.int .i64 0,.string ⟨#[]⟩,.string ⟨#[]⟩,.slice none 0 0,.slice none 0 0,.slice none 0 0,.slice none 0 0] 82)).heap.size=w.heap.size+2:=by rw[World.size_alloc,s1]
 generalize hW0:((w.alloc (.cells #[.string pn,.int .i64 v1,.int .i64 v2,.int .i64 v3,.string va,.string pt,.slice A l1 c,.slice A2 l2 c2,.slice A3 n c3,.slice A4 l4 c4] 76)).alloc (.cells #[.string ⟨#[]⟩,.string ⟨#[]⟩,.bool false,.bool false,.int .i64 0,.string ⟨#[]⟩,.string ⟨#[]⟩,.slice none 0 0,.slice none 0 0,.slice none 0 0,.slice none 0 0] 82))=W0 at *
 have HW0:=Hy hW0
 have e0:=b0.cell;have l0:=b0.lt
 clear hW0 x1 x2 s1
 go_enter Tryz.func43,Tryz.ntmps43
 go_wp2_with fail
 rw[HW0.out]
 refine (CC.out _ hx0).mono ?_
 rintro e w1 ⟨rfl,hx1⟩
 have hx01:=hx0.trans hx1
 have b0:=b0.ext hx1;have b1:=b1.ext hx1
 have hs1:=hx1.size
 by_cases h1:E1=0
 rotate_left
 ·have HEE:=Hy (HA.out h1)
  have hne:(E1 != 0)=true:=by rw[bne_iff_ne];exact h1
  clear h1 e0 l0
  have eR:=b1.cell;have lR:=b1.lt;have fR:=b1.free
  go_wp2
  refine bodyPost_ret (v:=.tuple #[.agg #[.string ⟨#[]⟩,.string ⟨#[]⟩,.bool false,.bool false,.int .i64 0,.string ⟨#[]⟩,.string ⟨#[]⟩,.slice none 0 0,.slice none 0 0,.slice none 0 0,.slice none 0 0],.int .i64 E1]) (by simp[results,Tryz.results43,go_sem,eR]) rfl ?_
  have hF:=hx01
  have hF:=hF.setCell (p:=⟨w.heap.size+1,0,none⟩) (Nat.le_succ _) (.string ⟨#[]⟩)
  have hF:=hF.setCell (p:=⟨w.heap.size+1,1,none⟩) (Nat.le_succ _) (.string ⟨#[]⟩)
  have hF:=hF.setCell (p:=⟨w.heap.size+1,2,none⟩) (Nat.le_succ _) (.bool false)
  have hF:=hF.setCell (p:=⟨w.heap.size+1,3,none⟩) (Nat.le_succ _) (.bool false)
  have hF:=hF.setCell (p:=⟨w.heap.size+1,4,none⟩) (Nat.le_succ _) (.int .i64 0)
  have hF:=hF.setCell (p:=⟨w.heap.size+1,5,none⟩) (Nat.le_succ _) (.string ⟨#[]⟩)
  have hF:=hF.setCell (p:=⟨w.heap.size+1,6,none⟩) (Nat.le_succ _) (.string ⟨#[]⟩)
  have hF:=hF.setCell (p:=⟨w.heap.size+1,7,none⟩) (Nat.le_succ _) (.slice none 0 0)
  have hF:=hF.setCell (p:=⟨w.heap.size+1,8,none⟩) (Nat.le_succ _) (.slice none 0 0)
  have hF:=hF.setCell (p:=⟨w.heap.size+1,9,none⟩) (Nat.le_succ _) (.slice none 0 0)
  have hF:=hF.setCell (p:=⟨w.heap.size+1,10,none⟩) (Nat.le_succ _) (.slice none 0 0)
  obtain⟨rfl,rfl⟩:=HEE.out
  exact⟨0,⟨#[]⟩,⟨#[]⟩,none,0,0,none,0,none,0,none,0,rfl,zeroP_in _,hF⟩
 ·subst h1
  have e1:=b0.cell;have l1':=b0.lt
  clear e0 l0
  go_wp2_with fail
  refine (CA.out _ hx01).mono ?_
  rintro e w2 ⟨rfl,hx2⟩
  have hx02:=hx01.trans hx2
  have b0:=b0.ext hx2;have b1:=b1.ext hx2
  have hs2:=hx2.size
  clear e1 l1'
  rcases HAC.out with ⟨k,hk,rfl,hnm⟩|⟨rfl,hnm⟩
  rotate_left
  ·clear hnm
   have HEE:=Hy (HB.out (by trivial) (by trivial))
   have eR:=b1.cell;have lR:=b1.lt;have fR:=b1.free
   go_wp2
   refine bodyPost_ret (v:=.tuple #[.agg #[.string ⟨#[]⟩,.string ⟨#[]⟩,.bool false,.bool false,.int .i64 0,.string ⟨#[]⟩,.string ⟨#[]⟩,.slice none 0 0,.slice none 0 0,.slice none 0 0,.slice none 0 0],.int .i64 10]) (by simp[results,Tryz.results43,go_sem,eR]) rfl ?_
   have hF:=hx02
   have hF:=hF.setCell (p:=⟨w.heap.size+1,0,none⟩) (Nat.le_succ _) (.string ⟨#[]⟩)
   have hF:=hF.setCell (p:=⟨w.heap.size+1,1,none⟩) (Nat.le_succ _) (.string ⟨#[]⟩)
   have hF:=hF.setCell (p:=⟨w.heap.size+1,2,none⟩) (Nat.le_succ _) (.bool false)
   have hF:=hF.setCell (p:=⟨w.heap.size+1,3,none⟩) (Nat.le_succ _) (.bool false)
   have hF:=hF.setCell (p:=⟨w.heap.size+1,4,none⟩) (Nat.le_succ _) (.int .i64 0)
   have hF:=hF.setCell (p:=⟨w.heap.size+1,5,none⟩) (Nat.le_succ _) (.string ⟨#[]⟩)
   have hF:=hF.setCell (p:=⟨w.heap.size+1,6,none⟩) (Nat.le_succ _) (.string ⟨#[]⟩)
   have hF:=hF.setCell (p:=⟨w.heap.size+1,7,none⟩) (Nat.le_succ _) (.slice none 0 0)
   have hF:=hF.setCell (p:=⟨w.heap.size+1,8,none⟩) (Nat.le_succ _) (.slice none 0 0)
   have hF:=hF.setCell (p:=⟨w.heap.size+1,9,none⟩) (Nat.le_succ _) (.slice none 0 0)
   have hF:=hF.setCell (p:=⟨w.heap.size+1,10,none⟩) (Nat.le_succ _) (.slice none 0 0)
   obtain⟨rfl,rfl⟩:=HEE.out
   exact⟨0,⟨#[]⟩,⟨#[]⟩,none,0,0,none,0,none,0,none,0,rfl,zeroP_in _,hF⟩
  ·have hkl:k < l.length:=hk
   have hkn:k < n:=by rw[<-HN.out];exact hkl
   have HEE:=Hy (HC.out (by trivial) hkl rfl)
   obtain⟨b,o,rfl,hX⟩:=(HR.out.ext hx02) (fun e=>by rw[e] at hkl;exact absurd hkl (Nat.not_lt_zero _))
   obtain⟨k0,n0,x0,A5,m5,c5,A6,c6,A7,c7,A8,c8,hrow⟩:=hX k hkl
   have LD:=load_Cm hrow
   have CK:=Hy (CL.out (by trivial) k hkl w2 k0 n0 x0 A5 m5 c5 A6 c6 A7 c7 A8 c8 hrow.has)
   have HLT:=Hy (show w.heap.size+1 < w2.heap.size from by omega)
   clear hX hrow CL HR HA HB HC HAC CA CC hnm
   generalize l[k]=q at *
   obtain⟨qn,qt,qd,qa,qw,qe,qi,qs⟩:=q
   dsimp only[cmV] at *
   generalize h6:qe.length=l6 at *
   generalize h7:qi.length=l7 at *
   generalize h8:qs.length=l8 at *
   have H6:=Hy h6;have H7:=Hy h7;have H8:=Hy h8
   clear h6 h7 h8
   have e2:=b0.cell;have l2':=b0.lt
   have hkc:k<=c3:=by omega
   go_wp2_with (first|(refine wpList_load_at rfl _ _ rfl _ rfl _ LD ?_))
   refine CK.out.mono ?_
   rintro e w3 ⟨k1,n1,y1,B5,m1,d5,B6,d6,B7,d7,B8,d8,rfl,hin,hx3⟩
   have HIN:=Hy hin
   have b1:=b1.ext hx3
   clear e2 l2' LD hin
   have eR:=b1.cell;have lR:=b1.lt;have fR:=b1.free
   go_wp2
   refine bodyPost_ret (v:=.tuple #[.agg #[.string qn,.string qt,.bool qd,.bool qa,.int .i64 k1,.string n1,.string y1,.slice B5 m1 d5,.slice B6 l6 d6,.slice B7 l7 d7,.slice B8 l8 d8],.int .i64 0]) (by simp[results,Tryz.results43,go_sem,eR]) rfl ?_
   have hF:=hx02.trans hx3
   have hF:=hF.setCell (p:=⟨w.heap.size+1,0,none⟩) (Nat.le_succ _) (.string qn)
   have hF:=hF.setCell (p:=⟨w.heap.size+1,1,none⟩) (Nat.le_succ _) (.string qt)
   have hF:=hF.setCell (p:=⟨w.heap.size+1,2,none⟩) (Nat.le_succ _) (.bool qd)
   have hF:=hF.setCell (p:=⟨w.heap.size+1,3,none⟩) (Nat.le_succ _) (.bool qa)
   have hF:=hF.setCell (p:=⟨w.heap.size+1,4,none⟩) (Nat.le_succ _) (.int .i64 k1)
   have hF:=hF.setCell (p:=⟨w.heap.size+1,5,none⟩) (Nat.le_succ _) (.string n1)
   have hF:=hF.setCell (p:=⟨w.heap.size+1,6,none⟩) (Nat.le_succ _) (.string y1)
   have hF:=hF.setCell (p:=⟨w.heap.size+1,7,none⟩) (Nat.le_succ _) (.slice B5 m1 d5)
   have hF:=hF.setCell (p:=⟨w.heap.size+1,8,none⟩) (Nat.le_succ _) (.slice B6 l6 d6)
   have hF:=hF.setCell (p:=⟨w.heap.size+1,9,none⟩) (Nat.le_succ _) (.slice B7 l7 d7)
   have hF:=hF.setCell (p:=⟨w.heap.size+1,10,none⟩) (Nat.le_succ _) (.slice B8 l8 d8)
   have hG:=hF
   have hF:=ExtC.refl (fun i=>i < w2.heap.size) w3
   have hF:=hF.set (p:=⟨w.heap.size+1,0,none⟩) (.inl HLT.out) (.string qn)
   have hF:=hF.set (p:=⟨w.heap.size+1,1,none⟩) (.inl HLT.out) (.string qt)
   have hF:=hF.set (p:=⟨w.heap.size+1,2,none⟩) (.inl HLT.out) (.bool qd)
   have hF:=hF.set (p:=⟨w.heap.size+1,3,none⟩) (.inl HLT.out) (.bool qa)
   have hF:=hF.set (p:=⟨w.heap.size+1,4,none⟩) (.inl HLT.out) (.int .i64 k1)
   have hF:=hF.set (p:=⟨w.heap.size+1,5,none⟩) (.inl HLT.out) (.string n1)
   have hF:=hF.set (p:=⟨w.heap.size+1,6,none⟩) (.inl HLT.out) (.string y1)
   have hF:=hF.set (p:=⟨w.heap.size+1,7,none⟩) (.inl HLT.out) (.slice B5 m1 d5)
   have hF:=hF.set (p:=⟨w.heap.size+1,8,none⟩) (.inl HLT.out) (.slice B6 l6 d6)
   have hF:=hF.set (p:=⟨w.heap.size+1,9,none⟩) (.inl HLT.out) (.slice B7 l7 d7)
   have hF:=hF.set (p:=⟨w.heap.size+1,10,none⟩) (.inl HLT.out) (.slice B8 l8 d8)
   obtain⟨rfl,rfl⟩:=HEE.out
   obtain rfl:=H6.out
   obtain rfl:=H7.out
   obtain rfl:=H8.out
   exact⟨k1,n1,y1,B5,m1,d5,B6,d6,B7,d7,B8,d8,rfl,HIN.out _ hF,hG⟩
end Go.Proofs.YtmpccllnpcbgcaaGreatDoor
