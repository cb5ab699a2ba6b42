/- The law outlaw2.PartsMatch: its walk. -/
import Derived.Test.YtmpccllnpcbgcaaGreatDoorPk02
import Derived.Test.YtmpccllnpcbgcaaGreatDoorPk04
import Derived.Test.YtmpccllnpcbgcaaGreatDoorPk08
import Derived.Test.YtmpccllnpcbgcaaGreatDoorPk09
import Derived.Test.YtmpccllnpcbgcaaGreatDoorPk10
import Derived.Test.YtmpccllnpcbgcaaGreatDoorPk19
import Derived.Test.YtmpccllnpcbgcaaGreatDoorPk22
import Derived.Test.YtmpccllnpcbgcaaGreatDoorPk25
import Derived.Test.YtmpccllnpcbgcaaGreatDoorPk27
import Derived.Test.YtmpccllnpcbgcaaGreatDoorPk29
import Derived.Test.YtmpccllnpcbgcaaGreatDoorPk32
import Derived.Test.YtmpccllnpcbgcaaGreatDoorPk35
import Derived.Test.YtmpccllnpcbgcaaGreatDoorPk39
import Derived.Test.YtmpccllnpcbgcaaGreatDoorPk40
import Derived.Test.YtmpccllnpcbgcaaGreatDoorPk41
import Derived.Test.YtmpccllnpcbgcaaGreatDoorPk45
import Derived.Test.YtmpccllnpcbgcaaGreatDoorMono
import Derived.Test.YtmpccllnpcbgcaaGreatDoorPaL
import Derived.Test.YtmpccllnpcbgcaaGreatDoorPaE
import Derived.Test.YtmpccllnpcbgcaaGreatDoorPaB
import Derived.Test.YtmpccllnpcbgcaaGreatDoorPaC
import Derived.Test.YtmpccllnpcbgcaaGreatDoorPaD
import Derived.Test.YtmpccllnpcbgcaaGreatDoorPaG
import Derived.Test.YtmpccllnpcbgcaaGreatDoorPaH
import Derived.Test.YtmpccllnpcbgcaaGreatDoorProg
import Derived.Test.YtmpccllnpcbgcaaGreatDoorShelf
import Derived.Test.YtmpccllnpcbgcaaGreatDoorShelfG
import Derived.Lib.Split
import Derived.Lib.IndexBytes
import Derived.Lib.ItoaLen
import Derived.WalkKit
import Derived.WalkSpells
import Derived.WalkLawsBesides
import Derived.LoopTactic
import Derived.Outline
import Derived.Lib.Hide
import Derived.Lib.LaidTab
import Derived.Lib.ConvBytes
import Derived.Lib.ItoaNum
import Derived.WalkSmall
import Derived.Sort.Grow
import Derived.Deep.QuietTactic
import Derived.BigQuiet
import Derived.Lib.Replace
import Derived.Lib.SplitLaws
import Derived.Laws.AppendOwn
import Derived.Laws.OwnMore
import Derived.Maps.AppendAt
import Derived.OwnWalk
import Derived.Lib.Join
import Derived.StillTail
import Derived.Lib.AtoiAll
import Derived.Lib.Small
import Derived.Lib.Bytealg
import Derived.Deep.DeepCutAuto
import Derived.Deep.AppendLies
import Derived.Deep.RegionHeld3
import Derived.Deep.RegionLaw
import Derived.MapKept
import Derived.Laws.StructEq
import Derived.Deep.LoopGhost
import Derived.Laws.Cells
import Derived.Maps.OwnSet
import Derived.Maps.StringElems
import Derived.Sort.Walk0
import Derived.Sort.KeysCollected
import Derived.Lib.SlicesCompact
import Derived.Maps.RangeWalk
import Derived.Deep.Upon
import Derived.ArgAppend
import Derived.Laws.MakeOwn
import Derived.DeepKeys3
import Derived.OrdersHeld
import Derived.RegionTactic
import GoSem.Step
import Derived.Calls
import Derived.Shelf.SlSortCmp.WholeK
import Derived.Shelf.SlSortCmp.NoneTotal
import Derived.Laws.EntriesVeiled
import Derived.Lib.SliceRun
import Derived.Laws.IdiomCopy
namespace Go.Proofs.YtmpccllnpcbgcaaGreatDoor
open Go.RowKit
theorem items_same {p:Pkg} {V:Nat->Bool} (h:pkErr p=0) {L1 L2:List Itm} (a:ItemsS p.comps V L1) (b:L2.Perm (itemsK p.comps (fun i=>memB (p.comps.getD i zeroP).name (markL p.comps V)) p.comps.length)) (c:L2.Pairwise fun x y=>itCmp x y<=0):L2=L1:=by
 have hnd:=(pk_ok h).2
 have h1:=firstI_ne h (placesErr p.comps) (by simp)
 have h2:=firstI_ne h1 (twiceErr (itemsL p.comps)) (by simp)
 refine ItemsS.same (spots_nodup h2) (ItemsS.congr (V:=fun i=>memB (p.comps.getD i zeroP).name (markL p.comps V)) ⟨b,c⟩ fun i hi=>?_) a
 rw[Bool.eq_iff_iff,memB_iff]
 exact markK_name hnd hi
theorem items_len {p:Pkg} {V:Nat->Bool} {L:List Itm} (a:ItemsS p.comps V L) (h:(itemsL p.comps).length<=2097152):L.length<=100000000:=by
 have h1:=a.1.length_eq
 have h2:=(itemsK_all p.comps V).length_le
 omega
set_option maxHeartbeats 64000000 in
set_option maxRecDepth 100000 in
theorem PartsMatch_any (p:Pkg) (A:Option Addr) (c:Nat) (A2:Option Addr) (c2:Nat) (A3:Option Addr) (c3:Nat) (A4:Option Addr) (c4:Nat) (ns:List ByteArray) (An:Option Addr) (nn cn:Nat) (w:World) (hg:GoodN w) (hp:PkIn w p A c A2 c2 A3 c3 A4 c4) (hs:SmallP p) (hnt:(p.comps.flatMap Cmp.needs).length<=2097152) (hnn:ns.length=nn) (hcn:nn<=cn) (hrn:RdX w An ns) (hln:nn<=2000000) :
 Calls Tryz.prog 8 #[pkV p A c A2 c2 A3 c3 A4 c4,.slice An nn cn] w fun e w'=>e=.returned (.bool true)∧Ext w w':=by
 have CE:=Hy (fun W (h:Ext w W)=>PackageError_any p A c A2 c2 A3 c3 A4 c4 W (hg.ext h) (hp.ext h) hs)
 have CP:=Hy (fun W (h:Ext w W)=>packs_any W (hg.ext h))
 have CIT:=Hy (fun W (h:Ext w W)=>Items_any p A c A2 c2 A3 c3 A4 c4 ns An nn cn W (hg.ext h) (hp.ext h) hs hnn hcn (hrn.ext h) hln)
 have CST:=Hy (fun W (h:Ext w W)=>Steps_any p A c A2 c2 A3 c3 A4 c4 ns An nn cn W (hg.ext h) (hp.ext h) hs hnn hcn (hrn.ext h) hln)
 have CH:=Hy (fun W (h:Ext w W)=>ChosenError_any p A c A2 c2 A3 c3 A4 c4 ns An nn cn W (hp.comps.ext h) hs.clen hnn hcn (hrn.ext h) (by omega))
 have CO:=Hy (fun (h0:pkErr p=0) (h1:chErr p.comps ns=0) W (h:Ext w W)=>ClosedOf_any p A c A2 c2 A3 c3 A4 c4 ns An nn cn W (hp.comps.ext h) (pk_ok h0).1 (pk_ok h0).2 (fun c hc=>(hs.comps c hc).name) (fun c hc=>(hs.comps c hc).needs) hnt hnn (hrn.ext h) (by omega) (ch_comps h1))
 have hml:=markK_len p.comps (clsV p.comps ns) p.comps.length
 change (markL p.comps (clsV p.comps ns)).length<=_ at hml
 have CIO:=Hy (fun An' cn' W (h:Ext w W) (hr:RdX W An' (markL p.comps (clsV p.comps ns)))=>ItemsOf_any p A c A2 c2 A3 c3 A4 c4 (markL p.comps (clsV p.comps ns)) An' (markL p.comps (clsV p.comps ns)).length cn' W (hp.comps.ext h) hs.clen hs.all rfl hr (by have:=hs.clen;omega))
 have CSO:=Hy (fun (h0:pkErr p=0) An' cn' W (h:Ext w W) (hr:RdX W An' (markL p.comps (clsV p.comps ns))) (hc:(markL p.comps (clsV p.comps ns)).length<=cn')=>StepsOf_any p A c A2 c2 A3 c3 A4 c4 (markL p.comps (clsV p.comps ns)) An' (markL p.comps (clsV p.comps ns)).length cn' W (hp.comps.ext h) (pk_ok h0).1 hp.cap.2.2.1 (pk_needs h0) hs.comps (fun x hx=>marked_comp hx) rfl hc hr (by have:=(pk_ok h0).1;omega))
 have HSAME:=Hy (fun (h0:pkErr p=0) L1 L2 a b c=>items_same (p:=p) (V:=clsV p.comps ns) h0 (L1:=L1) (L2:=L2) a b c)
 have HIL:=Hy (fun L a=>items_len (p:=p) (V:=clsV p.comps ns) (L:=L) a hs.all)
 have HL0:=Hy (show ¬ f2 (pkErr p) (chErr p.comps ns)=0->stpL p ns=[] from fun h=>if_neg h)
 have HL1:=Hy (show f2 (pkErr p) (chErr p.comps ns)=0->stpL p ns=stpM p.comps (markL p.comps (clsV p.comps ns)) from fun h=>if_pos h)
 have HE0:=Hy (show ¬ pkErr p=0->f2 (pkErr p) (chErr p.comps ns)=pkErr p from fun h=>if_neg h)
 have HE1:=Hy (show pkErr p=0->f2 (pkErr p) (chErr p.comps ns)=chErr p.comps ns from fun h=>if_pos h)
 clear hg hp hs hnt hrn hnn hml
 generalize f2 (pkErr p) (chErr p.comps ns)=E3 at *
 generalize stpL p ns=SL at *
 generalize markL p.comps (clsV p.comps ns)=ML at *
 generalize chErr p.comps ns=E2 at *
 generalize pkErr p=E1 at *
 obtain⟨pn,⟨v1,v2,v3,va⟩,pt,pe,pb,l,pm⟩:=p
 dsimp only[pkV] at *
 generalize pe.length=l1 at *
 generalize pb.length=l2 at *
 generalize pm.length=l4 at *
 generalize hn:l.length=n at CE CIT CST CH CO CIO CSO HSAME HIL ⊢
 clear hn
 have b0:=Blk.new w 76 #[.string pn,.int .i64 v1,.int .i64 v2,.int .i64 v3,.string va,.string pt,.slice A l1 c,.slice A2 l2 c2,.slice A3 n c3,.slice A4 l4 c4]
 have hx0:Ext w (w.alloc (.cells #[.string pn,.int .i64 v1,.int .i64 v2,.int .i64 v3,.string va,.string pt,.slice A l1 c,.slice A2 l2 c2,.slice A3 n c3,.slice A4 l4 c4] 76)):=(Ext.refl w).alloc _
 generalize hW0:w.alloc (.cells #[.string pn,.int .i64 v1,.int .i64 v2,.int .i64 v3,.string va,.string pt,.slice A l1 c,.slice A2 l2 c2,.slice A3 n c3,.slice A4 l4 c4] 76)=W0 at *
 have HW0:=Hy hW0
 have e0:=b0.cell;have l0:=b0.lt
 clear hW0
 go_enter Tryz.func8,Tryz.ntmps8
 go_wp2_with fail
 rw[HW0.out]
 refine (CIT.out _ hx0).mono ?_
 rintro e w1 ⟨L1,B1,cc1,rfl,hcc1,hrd1,hno1,hyes1,hx1⟩
 have HNO:=Hy hno1;have HYES:=Hy hyes1;have HR1:=Hy hrd1
 have hxa:=hx0.trans hx1
 have b0:=b0.ext hx1
 clear e0 l0 hno1 hyes1 hrd1
 have e0:=b0.cell;have l0:=b0.lt
 go_wp2_with fail
 refine (CST.out _ hxa).mono ?_
 rintro e w2 ⟨B2,cc2,rfl,hsl,hrd2,hx2⟩
 have HR2:=Hy hrd2
 have hxb:=hxa.trans hx2
 have b0:=b0.ext hx2
 clear e0 l0 hrd2
 have e0:=b0.cell;have l0:=b0.lt
 go_wp2_with fail
 refine (CE.out _ hxb).mono ?_
 rintro e w3 ⟨rfl,hx3⟩
 have hxc:=hxb.trans hx3
 have b0:=b0.ext hx3
 clear e0 l0
 by_cases h1:E1=0
 rotate_left
 ·obtain rfl:=HE0.out h1
  obtain rfl:=HNO.out h1
  obtain rfl:=HL0.out h1
  have hne:(E3 != 0)=true:=by rw[bne_iff_ne];exact h1
  have hne':(E3==0)=false:=by rw[beq_eq_false_iff_ne];exact h1
  clear h1 HNO HL0 HE0 HE1 HL1 HYES HR1 HR2 HIL HSAME CIO CSO CO CIT CST CE CH b0
  go_wp2_with fail
  refine (CP.out _ hxc).mono ?_
  rintro e w4 ⟨rfl,hx4⟩
  have hxd:=hxc.trans hx4
  go_wp2_with fail
  refine (CP.out _ hxd).mono ?_
  rintro e w5 ⟨rfl,hx5⟩
  go_wp2
  go_ret
  exact⟨by simp,hxd.trans hx5⟩
 ·subst h1
  have e0:=b0.cell;have l0:=b0.lt
  obtain rfl:=HE1.out (by trivial)
  go_wp2_with fail
  refine (CH.out _ hxc).mono ?_
  rintro e w4 ⟨rfl,hx4⟩
  have hxd:=hxc.trans hx4
  have b0:=b0.ext hx4
  clear e0 l0
  by_cases h2:E3=0
  rotate_left
  ·obtain rfl:=HNO.out h2
   obtain rfl:=HL0.out h2
   have hne:(E3 != 0)=true:=by rw[bne_iff_ne];exact h2
   clear h2 HNO HL0 HE0 HE1 HL1 HYES HR1 HR2 HIL HSAME CIO CSO CO CIT CST CE CH b0
   go_wp2_with fail
   refine (CP.out _ hxd).mono ?_
   rintro e w5 ⟨rfl,hx5⟩
   have hxe:=hxd.trans hx5
   go_wp2_with fail
   refine (CP.out _ hxe).mono ?_
   rintro e w6 ⟨rfl,hx6⟩
   go_wp2
   go_ret
   exact⟨by simp,hxe.trans hx6⟩
  ·subst h2
   have HY:=Hy (HYES.out (by trivial))
   obtain rfl:=HL1.out (by trivial)
   have HRA:=Hy (fun W (h:Ext w4 W)=>HR1.out.ext (hx2.trans (hx3.trans (hx4.trans h))))
   have HRB:=Hy (fun W (h:Ext w4 W)=>HR2.out.ext (hx3.trans (hx4.trans h)))
   clear HNO HL0 HE0 HE1 HL1 HYES HR1 HR2 CIT CST CE CH
   go_wp2_with fail
   refine (CP.out _ hxd).mono ?_
   rintro e w5 ⟨rfl,hx5⟩
   have hxe:=hxd.trans hx5
   have b0:=b0.ext hx5
   have e0:=b0.cell;have l0:=b0.lt
   go_wp2_with fail
   refine (CO.out (by trivial) (by trivial) _ hxe).mono ?_
   rintro e w6 ⟨B6,cc6,rfl,hc6,hr6,hx6⟩
   have hxf:=hxe.trans hx6
   have b0:=b0.ext hx6
   have HR6:=Hy hr6
   clear e0 l0 hr6
   have e0:=b0.cell;have l0:=b0.lt
   go_wp2_with fail
   refine (CIO.out _ _ _ hxf HR6.out).mono ?_
   rintro e w7 ⟨L2,B7,cc7,rfl,hcc7,hp7,hs7,hr7,hx7,_⟩
   obtain rfl:=HSAME.out (by trivial) _ _ HY.out hp7 hs7
   have hxg:=hxf.trans hx7
   have b0:=b0.ext hx7
   have CQ:=Hy (EqualI_same B1 B7 cc1 cc7 _ L2 w7 rfl (HRA.out _ (hx5.trans (hx6.trans hx7))) hr7 (HIL.out _ HY.out))
   clear e0 l0 hr7 hp7 hs7 HY
   have e0:=b0.cell;have l0:=b0.lt
   go_wp2_with fail
   refine CQ.out.mono ?_
   rintro e w8 ⟨rfl,hx8⟩
   have hxh:=hxg.trans hx8
   have b0:=b0.ext hx8
   clear e0 l0 CQ
   have e0:=b0.cell;have l0:=b0.lt
   go_wp2_with fail
   refine (CSO.out (by trivial) _ _ _ hxh (HR6.out.ext (hx7.trans hx8)) hc6).mono ?_
   rintro e w9 ⟨B9,cc9,rfl,hl9,hr9,hx9⟩
   have hxi:=hxh.trans hx9
   have CQ:=Hy (EqualS_same B2 B9 cc2 cc9 _ _ w9 rfl (HRB.out _ (hx5.trans (hx6.trans (hx7.trans (hx8.trans hx9))))) hr9 (by omega))
   clear e0 l0 hr9 b0
   go_wp2_with fail
   refine CQ.out.mono ?_
   rintro e w10 ⟨rfl,hx10⟩
   go_wp2
   go_ret
   exact⟨by simp,hxi.trans hx10⟩
end Go.Proofs.YtmpccllnpcbgcaaGreatDoor
