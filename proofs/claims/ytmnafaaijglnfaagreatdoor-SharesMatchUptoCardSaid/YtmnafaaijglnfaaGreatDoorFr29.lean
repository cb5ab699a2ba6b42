/- Contract of ver.ParseCond. (Printed by gen/cneb.py.) Contracts of feed.offerFault and outref2.OfferError. (Printed by gen/feeds.py.) Contract of the reader's offer. -/
import Derived.Test.YtmnafaaijglnfaaGreatDoorFr17
import Derived.Test.YtmnafaaijglnfaaGreatDoorFr28
namespace Go.Proofs.YtmnafaaijglnfaaGreatDoor
section
open Go.RowKit
def CnPost (w:World) (r:Cd × Int × Int) (e:Ending) (w':World):Prop:=∃ v,e=.returned (.tuple #[v,.int .i64 r.2.1,.int .i64 r.2.2])∧CdIn (fun _=>True) w' r.1 v∧Ext w w'
def CnPostB (w:World) (r:Cd × Int × Int) (e:Ending) (w':World):Prop:=∃ v,e=.returned (.tuple #[v,.int .i64 r.2.1,.int .i64 r.2.2])∧CdIn (fun b=>w.heap.size<=b) w' r.1 v∧SmallC r.1∧cnt r.1<=100000000∧Ext w w'
theorem CnPostB.weak {w w':World} {r:Cd × Int × Int} {e:Ending} (h:CnPostB w r e w'):CnPost w r e w':=by
 obtain⟨v,h1,h2,_,_,h3⟩:=h
 exact⟨v,h1,h2.imp fun _ _ _=>trivial,h3⟩
theorem small_zero:SmallC zeroC:=.mk 0 ⟨#[]⟩ ⟨#[]⟩ [] (by decide) (by decide) (by decide) (fun _ h=>by cases h)
theorem cnt_zero:cnt zeroC<=100000000:=by decide
set_option maxRecDepth 100000 in
set_option maxHeartbeats 16000000 in
theorem ParseCond_own (s:ByteArray) (w:World) (hg:GoodN w) (hs:s.size<=2097152) :
 Calls Tryz.prog 34 #[.string s] w (CnPostB w (parseC s)):=by
 unfold parseC
 by_cases hbig:4000 < s.size
 ·rw[if_pos hbig]
  have hb:(4000:Int) < (s.size:Int):=by omega
  go_enter Tryz.func34,Tryz.ntmps34
  go_wp2
  exact bodyPost_ret (v:=.tuple #[.agg #[.int .i64 0,.string ⟨#[]⟩,.string ⟨#[]⟩,.slice none 0 0],.int .i64 0,.int .i64 4]) (by simp[results,Tryz.results34,go_sem]) rfl ⟨_,rfl,CdIn.leaf _ _ _ _ _,small_zero,cnt_zero,(Ext.refl w).alloc _⟩
 rw[if_neg hbig]
 have hb:¬ (4000:Int) < (s.size:Int):=by omega
 have hnw:w.heap.size<=w.heap.size:=Nat.le_refl _
 have hsz:=condF_size 100 _ (start_ok (s:=s)) hs
 have hrd0:Rd ((w.alloc (.cells #[.int .i64 0,.string ⟨#[]⟩,.string ⟨#[]⟩,.slice none 0 0] 52)).alloc (.cells #[.string s,.int .i64 0,.int .i64 0,.int .i64 0,.string ⟨#[]⟩,.int .i64 (-1)] 148)) (w.heap.size+1) s (at0 0):=by
  have:=Blk.new (w.alloc (.cells #[.int .i64 0,.string ⟨#[]⟩,.string ⟨#[]⟩,.slice none 0 0] 52)) 148 #[.string s,.int .i64 0,.int .i64 0,.int .i64 0,.string ⟨#[]⟩,.int .i64 (-1)]
  rw[World.size_alloc] at this
  exact this
 have b0:=(Blk.new w 52 #[.int .i64 0,.string ⟨#[]⟩,.string ⟨#[]⟩,.slice none 0 0]).alloc (.cells #[.string s,.int .i64 0,.int .i64 0,.int .i64 0,.string ⟨#[]⟩,.int .i64 (-1)] 148)
 have hx0:Ext w ((w.alloc (.cells #[.int .i64 0,.string ⟨#[]⟩,.string ⟨#[]⟩,.slice none 0 0] 52)).alloc (.cells #[.string s,.int .i64 0,.int .i64 0,.int .i64 0,.string ⟨#[]⟩,.int .i64 (-1)] 148)):=((Ext.refl w).alloc _).alloc _
 have HAV:=Hy (advance_any (w.heap.size+1) s (at0 0) _ hrd0 hs at0_ok.p)
 have hok1:=start_ok (s:=s)
 have hcn:=cond_all (w.heap.size+1) s hs 100 0 rfl (advF s (at0 0))
 rw[show ((0:Nat):Int)=0 from rfl] at hcn
 generalize advF s (at0 0)=σ1 at *
 obtain⟨R,hR⟩:∃ R,R=(if ¬ (condF s 100 σ1).2.wr < 0 then (zeroC,(condF s 100 σ1).2.wr,8) else if (condF s 100 σ1).2.k≠0 then (zeroC,((condF s 100 σ1).2.a:Int),8) else if checkC (condF s 100 σ1).1≠0 then (zeroC,0,checkC (condF s 100 σ1).1) else ((condF s 100 σ1).1,0,0)):=⟨_,rfl⟩
 rw[<-hR]
 generalize condF s 100 σ1=r at *
 obtain⟨c,σ⟩:=r
 dsimp only at hsz hcn hR
 obtain⟨hsm,hcnt⟩:=hsz
 have HCN:=Hy hcn
 have HR:=Hy hR
 clear hR hcn hrd0 hbig
 go_enter Tryz.func34,Tryz.ntmps34
 go_wp2_with fail
 refine HAV.out.mono ?_
 rintro e w1 ⟨rfl,hrd1,hx1⟩
 have hN2:=(HCN.out _ hrd1 hok1)
 have HN2:=Hy hN2
 clear hN2 HAV HCN
 go_wp2_with fail
 refine HN2.out.mono ?_
 rintro e w2 ⟨v,rfl,hcd,hrd,hx2⟩
 obtain⟨ck,cn,cx,cA,cm,ccp,rfl⟩:=hcd.cells
 have hxx:=hx1.trans hx2
 have b1:=b0.extX hxx (by omega)
 have hx2w:Ext w w2:=ExtX.ext hx0 hxx (by omega)
 have bc:=b1.cell;have bf:=b1.free;have bz:=b1.lt
 have rc:=hrd.cell;have rf:=hrd.free;have rz:=hrd.lt
 have HFL:=Hy (fail_any (w.heap.size+1) s σ σ.a _ (hrd.alloc (.cells #[.int .i64 ck,.string cn,.string cx,.slice cA cm ccp] 52)))
 have hz1:w.heap.size+1<=w1.heap.size:=by have:=hx1.size;rw[World.size_alloc,World.size_alloc] at this;omega
 have hcd2:CdAt (w.heap.size+1) w2 c (.agg #[.int .i64 ck,.string cn,.string cx,.slice cA cm ccp]):=hcd.low hz1
 clear hrd1 hrd hx1 hx2 hxx b0 hx0 HN2 hok1 hcd
 by_cases hw:σ.wr < 0
 rotate_left
 ·have hR:=HR.out
  rw[if_pos (show (0:Int)<=σ.wr by omega)] at hR
  have HRz:=Hy hR
  clear hR HR HFL
  go_wp2
  go_region
  all_goals
   go_wp2
   obtain rfl:=HRz.out
   exact bodyPost_ret (v:=.tuple #[.agg #[.int .i64 0,.string ⟨#[]⟩,.string ⟨#[]⟩,.slice none 0 0],.int .i64 σ.wr,.int .i64 8]) (by simp[results,Tryz.results34,go_sem,bc,bz]) rfl ⟨_,rfl,CdIn.leaf _ _ _ _ _,small_zero,cnt_zero,Ext.ad⟩
 have hnn:¬ (0:Int)<=σ.wr:=by omega
 by_cases hk:σ.k=0
 rotate_left
 ·have hR:=HR.out
  rw[if_neg hnn,if_pos hk] at hR
  have hkb:(σ.k != 0)=true:=bne_iff_ne.2 hk
  have HRz:=Hy hR
  have HFF:failF σ σ.a={ σ with wr:=(σ.a:Int) }:=by unfold failF;rw[if_pos hw]
  rw[HFF] at HFL
  have b1c:=b1.alloc (.cells #[.int .i64 ck,.string cn,.string cx,.slice cA cm ccp] 52)
  clear hR HR hk HFF hnn
  go_wp2_with fail
  refine HFL.out.mono ?_
  clear rc rf
  rintro e w3 ⟨rfl,hrd3,hx3⟩
  have b3:=b1c.extX hx3 (by omega)
  have hx3w:Ext w w3:=ExtX.ext (hx2w.alloc _) hx3 (by omega)
  clear bc bf bz b1c HFL
  have bc:=b3.cell;have bf:=b3.free;have bz:=b3.lt
  have rc:=hrd3.cell;have rf:=hrd3.free;have rz3:=hrd3.lt
  clear hrd3
  go_wp2
  go_region
  all_goals
   go_wp2
   obtain rfl:=HRz.out
   exact bodyPost_ret (v:=.tuple #[.agg #[.int .i64 0,.string ⟨#[]⟩,.string ⟨#[]⟩,.slice none 0 0],.int .i64 σ.a,.int .i64 8]) (by simp[results,Tryz.results34,go_sem,bc]) rfl ⟨_,rfl,CdIn.leaf _ _ _ _ _,small_zero,cnt_zero,Ext.ad⟩
 have hkb:(σ.k != 0)=false:=by rw[hk];rfl
 have hR:=HR.out
 rw[if_neg hnn,if_neg (show ¬ σ.k≠0 from fun x=>x hk)] at hR
 have HRz:=Hy hR
 have hxc:Ext w (w2.alloc (.cells #[.int .i64 ck,.string cn,.string cx,.slice cA cm ccp] 52)):=hx2w.alloc _
 have HCC:=Hy (CheckCond_any c _ _ _ (hg.ext hxc) (hcd2.ext ((Ext.refl w2).alloc (.cells #[.int .i64 ck,.string cn,.string cx,.slice cA cm ccp] 52))) hsm hcnt)
 have b1c:=b1.alloc (.cells #[.int .i64 ck,.string cn,.string cx,.slice cA cm ccp] 52)
 have bl:=Blk.new w2 52 #[.int .i64 ck,.string cn,.string cx,.slice cA cm ccp]
 have hnl:w.heap.size≠w2.heap.size:=by omega
 clear hR HR hk HFL hnn
 go_wp2_with fail
 refine HCC.out.mono ?_
 clear HCC
 rintro e w3 ⟨rfl,hx3⟩
 have b3:=b1c.ext hx3
 have bl3:=bl.ext hx3
 have hx3w:=hxc.trans hx3
 have hcd3:=(hcd2.ext ((Ext.refl w2).alloc (.cells #[.int .i64 ck,.string cn,.string cx,.slice cA cm ccp] 52))).ext hx3
 clear bc bf bz rc rf
 have bc:=b3.cell;have bf:=b3.free;have bz:=b3.lt
 have lc:=bl3.cell;have lf:=bl3.free;have lz:=bl3.lt
 generalize checkC c=E at *
 have hx4:=fun a b c d=>(((hx3w.setCell (p:=⟨w.heap.size,0,none⟩) (Nat.le_refl _) a).setCell (p:=⟨w.heap.size,1,none⟩) (Nat.le_refl _) b).setCell (p:=⟨w.heap.size,2,none⟩) (Nat.le_refl _) c).setCell (p:=⟨w.heap.size,3,none⟩) (Nat.le_refl _) d
 have hR:=HRz.out
 clear HRz
 by_cases hE:E=0
 rotate_left
 ·rw[if_pos hE] at hR
  have hEb:(E != 0)=true:=bne_iff_ne.2 hE
  have HRz:=Hy hR
  have HX4:=Hy hx4
  clear hR hE hcd2 hx4 hx3w hx2w hxc
  go_wp2
  obtain rfl:=HRz.out
  exact bodyPost_ret (v:=.tuple #[.agg #[.int .i64 0,.string ⟨#[]⟩,.string ⟨#[]⟩,.slice none 0 0],.int .i64 0,.int .i64 E]) (by simp[results,Tryz.results34,go_sem,bc]) rfl ⟨_,rfl,CdIn.leaf _ _ _ _ _,small_zero,cnt_zero,HX4.out _ _ _ _⟩
 ·rw[if_neg (show ¬ E≠0 from fun x=>x hE)] at hR
  have hEb:(E != 0)=false:=by rw[hE];rfl
  have HRz:=Hy hR
  have hcd4:=((((hcd3.set (p:=⟨w.heap.size,0,none⟩) (Nat.lt_succ_self _) (.int .i64 ck)).set (p:=⟨w.heap.size,1,none⟩) (Nat.lt_succ_self _) (.string cn)).set (p:=⟨w.heap.size,2,none⟩) (Nat.lt_succ_self _) (.string cx)).set (p:=⟨w.heap.size,3,none⟩) (Nat.lt_succ_self _) (.slice cA cm ccp)).imp (P':=fun b=>w.heap.size<=b) (fun b _ hb=>Nat.le_of_succ_le hb)
  have HCD4:=Hy hcd4
  have HX4:=Hy hx4
  clear hR hE hcd2 hcd4 hcd3 hx4 hx3w hx2w hxc
  go_wp2
  obtain rfl:=HRz.out
  exact bodyPost_ret (v:=.tuple #[.agg #[.int .i64 ck,.string cn,.string cx,.slice cA cm ccp],.int .i64 0,.int .i64 0]) (by simp[results,Tryz.results34,go_sem,bc]) rfl ⟨_,rfl,HCD4.out,hsm,hcnt,HX4.out _ _ _ _⟩
theorem ParseCond_any (s:ByteArray) (w:World) (hg:GoodN w) (hs:s.size<=2097152) :
 Calls Tryz.prog 34 #[.string s] w (CnPost w (parseC s)):=(ParseCond_own s w hg hs).mono fun _ _ h=>h.weak
end
section
open Go.RowKit
set_option maxHeartbeats 8000000 in
set_option maxRecDepth 100000 in
theorem offerFault_any (o:Of) (A:Option Addr) (c:Nat) (k:Int) (n x:ByteArray) (A2:Option Addr) (m c2:Nat) (w:World) (hg:GoodN w) (hi:OfIn AnyB w o A k n x A2 m c2) (hs:SmallO o) :
 Calls Tryz.prog 121 #[ofV o A c k n x A2 m c2] w fun e w'=>e=.returned (.int .i64 (ofErr o))∧Ext w w':=by
 have CN:=Hy (fun W=>IsName_any o.name W hs.name)
 have CV:=Hy (show ∀ W,Ext w W->Calls Tryz.prog 17 #[.agg #[.int .i64 o.vv.a1,.int .i64 o.vv.a2,.int .i64 o.vv.a3,.string o.vv.a]] W fun e w'=>e=.returned (.int .i64 o.vv.err)∧Ext W w' from fun W h=>Check_any o.vv.a1 o.vv.a2 o.vv.a3 o.vv.a W (hg.toGood.ext h) hs.vv)
 have CS:=Hy (fun W=>isSum_any o.sum W hs.sum)
 have CR:=Hy (fun W (h:Ext w W)=>CheckRange_any A o.fr.length c o.fr W (hg.toGood.ext h) rfl (hi.1.rd.ext h) hs.fr hs.len)
 have CC:=Hy (fun W (h:Ext w W)=>CheckCond_any o.wh (.agg #[.int .i64 k,.string n,.string x,.slice A2 m c2]) AnyB W (hg.ext h) (hi.2.ext h) hs.wh hs.cnt)
 have O1:=Hy (fun W=>outsideF_any o.bg 0 1099511627776 W)
 have O2:=Hy (fun W=>outsideF_any o.st 0 1000 W)
 have O3:=Hy (fun W=>outsideF_any o.gr 0 1000 W)
 have HE:=Hy (show ofErr o=firstI [(if nameL (bs o.name)=true then 0 else 5),o.vv.err,(if sumL (bs o.sum)=true then 0 else 2),rngErr o.fr,checkC o.wh,(if (inI o.bg 0 1099511627776&&inI o.st 0 1000&&inI o.gr 0 1000)=true then 0 else 3)] from rfl)
 clear hg hi hs
 generalize ofErr o=E at *
 generalize nameL (bs o.name)=Q1 at *
 generalize o.vv.err=E1 at *
 generalize sumL (bs o.sum)=Q2 at *
 generalize rngErr o.fr=E2 at *
 generalize checkC o.wh=E3 at *
 generalize inI o.bg 0 1099511627776=I1 at *
 generalize inI o.st 0 1000=I2 at *
 generalize inI o.gr 0 1000=I3 at *
 obtain⟨on,⟨o1,o2,o3,oa⟩,os,of_,ow,od,ob,ot,og,oh,ou,ok⟩:=o
 dsimp only[ofV] at *
 generalize of_.length=ol at *
 have b0:=Blk.new w 66 #[.string on,.int .i64 o1,.int .i64 o2,.int .i64 o3,.string oa,.string os,.slice A ol c,.bool ow,.int .i64 k,.string n,.string x,.slice A2 m c2,.int .i64 ob,.int .i64 ot,.int .i64 og,.bool oh,.bool ou,.bool ok]
 have hx0:Ext w (w.alloc (.cells #[.string on,.int .i64 o1,.int .i64 o2,.int .i64 o3,.string oa,.string os,.slice A ol c,.bool ow,.int .i64 k,.string n,.string x,.slice A2 m c2,.int .i64 ob,.int .i64 ot,.int .i64 og,.bool oh,.bool ou,.bool ok] 66)):=(Ext.refl w).alloc _
 generalize hW:w.alloc (.cells #[.string on,.int .i64 o1,.int .i64 o2,.int .i64 o3,.string oa,.string os,.slice A ol c,.bool ow,.int .i64 k,.string n,.string x,.slice A2 m c2,.int .i64 ob,.int .i64 ot,.int .i64 og,.bool oh,.bool ou,.bool ok] 66)=W0 at *
 have HW:=Hy hW
 clear hW
 have e0:=b0.cell
 go_enter Tryz.func121,Tryz.ntmps121
 go_wp2_with fail
 rw[HW.out]
 go_wp2_with fail
 refine (CN.out _).mono ?_
 rintro e w' ⟨rfl,rfl⟩
 cases Q1
 ·go_wp2
  go_ret
  exact⟨ret_int (by rw[HE.out];simp[firstI]),hx0⟩
 go_wp2_with fail
 refine (CV.out _ hx0).mono ?_
 rintro e w1 ⟨rfl,hx1⟩
 have hx01:=hx0.trans hx1
 have b1:=b0.ext hx1
 clear e0
 have e1:=b1.cell
 by_cases h1:E1=0
 rotate_left
 ·have hne:(E1 != 0)=true:=by rw[bne_iff_ne];exact h1
  have H1:=Hy h1
  clear h1
  go_wp2
  go_ret
  exact⟨ret_int (by rw[HE.out];simp[firstI,H1.out]),hx01⟩
 subst h1
 go_wp2_with fail
 refine (CS.out _).mono ?_
 rintro e w' ⟨rfl,rfl⟩
 cases Q2
 ·go_wp2
  go_ret
  exact⟨ret_int (by rw[HE.out];simp[firstI]),hx01⟩
 go_wp2_with fail
 refine (CR.out _ hx01).mono ?_
 rintro e w2 ⟨rfl,hx2⟩
 have hx02:=hx01.trans hx2
 have b2:=b1.ext hx2
 clear e1
 have e2:=b2.cell
 by_cases h2:E2=0
 rotate_left
 ·have hne:(E2 != 0)=true:=by rw[bne_iff_ne];exact h2
  have H2:=Hy h2
  clear h2
  go_wp2
  go_ret
  exact⟨ret_int (by rw[HE.out];simp[firstI,H2.out]),hx02⟩
 subst h2
 go_wp2_with fail
 refine (CC.out _ hx02).mono ?_
 rintro e w3 ⟨rfl,hx3⟩
 have hx03:=hx02.trans hx3
 have b3:=b2.ext hx3
 clear e2
 have e3:=b3.cell
 by_cases h3:E3=0
 rotate_left
 ·have hne:(E3 != 0)=true:=by rw[bne_iff_ne];exact h3
  have H3:=Hy h3
  clear h3
  go_wp2
  go_ret
  exact⟨ret_int (by rw[HE.out];simp[firstI,H3.out]),hx03⟩
 subst h3
 cases I1
 ·go_wp2_with fail
  refine (O1.out _).mono ?_
  rintro e w' ⟨rfl,rfl⟩
  go_wp2
  go_ret
  exact⟨ret_int (by rw[HE.out];simp[firstI]),hx03⟩
 cases I2
 ·go_wp2_with fail
  refine (O1.out _).mono ?_
  rintro e w' ⟨rfl,rfl⟩
  go_wp2_with fail
  refine (O2.out _).mono ?_
  rintro e w' ⟨rfl,rfl⟩
  go_wp2
  go_ret
  exact⟨ret_int (by rw[HE.out];simp[firstI]),hx03⟩
 go_wp2_with fail
 refine (O1.out _).mono ?_
 rintro e w' ⟨rfl,rfl⟩
 go_wp2_with fail
 refine (O2.out _).mono ?_
 rintro e w' ⟨rfl,rfl⟩
 go_wp2_with fail
 refine (O3.out _).mono ?_
 rintro e w' ⟨rfl,rfl⟩
 cases I3
 ·go_wp2
  go_ret
  exact⟨ret_int (by rw[HE.out];simp[firstI]),hx03⟩
 ·go_wp2
  go_ret
  exact⟨ret_int (by rw[HE.out];simp[firstI]),hx03⟩
end
section
open Go.RowKit
theorem info_offer:(Tryz.prog.info? 66).map (fun i=>(i.zero,i.size,i.bytes))=some (some (.agg #[.string ⟨#[]⟩,.int .i64 0,.int .i64 0,.int .i64 0,.string ⟨#[]⟩,.string ⟨#[]⟩,.slice none 0 0,.bool false,.int .i64 0,.string ⟨#[]⟩,.string ⟨#[]⟩,.slice none 0 0,.int .i64 0,.int .i64 0,.int .i64 0,.bool false,.bool false,.bool false]),18,200):=by kernel_rfl
def newO (a:ByteArray) (v:V4) (s:ByteArray):Of:=⟨a,v,s,[],false,.mk 1 ⟨#[]⟩ ⟨#[]⟩ [],0,0,0,false,false,false⟩
theorem blk_turnedF {w w':World} {g:Nat} {t:TypeId} {cs:Array Value} {row:Option Nat} (h:Blk w g t cs) (hg:w.grownBy w' row) (hne:some g≠row):Blk w' g t cs:=(hg.block g h.lt hne).trans h
set_option maxHeartbeats 16000000 in
set_option maxRecDepth 100000 in
theorem offerR_any (b:Nat) (v:Value) (l:List Of) (ch:ByteArray) (sr tm st fl:Int) (p:List ByteArray) (g c n:Nat) (w0 w:World) (hg:GoodN w0) (hx0:Ext w0 w) (hB:w0.heap.size<=b) (hl:l.length<=2000000) (hn:p.length=n) (hp:RdL w g p) (hz:∀ x∈p,x.size<=2097152) (hgv:v.ownBlock≠some g) (h:RSt w b ch sr tm v l st fl) :
 Calls Tryz.prog 195 #[.pointer (some ⟨b,0,none⟩),.slice (some ⟨g,0,none⟩) n c] w fun e w'=>∃ ok,e=.returned (.bool ok)∧Ext w0 w'∧(ok=true->∃ v' o fl',RSt w' b ch sr tm v' (l++[o]) 2 fl'):=by
 have HS:=Hy h
 have HX0:=Hy hx0
 have HG:=Hy hg
 have HNO:∀ W,Ext w0 W->(∃ ok,Ending.returned (.bool false)=.returned (.bool ok)∧Ext w0 W∧(ok=true->∃ v' o fl',RSt W b ch sr tm v' (l++[o]) 2 fl')):=fun W hW=>⟨false,rfl,hW,fun h=>by cases h⟩
 have HNO:=Hy HNO
 by_cases h3:n=3
 rotate_left
 ·have hne:((n:Int) != 3)=true:=by rw[bne_iff_ne];omega
  clear h h3 hg hp
  go_enter Tryz.func195,Tryz.ntmps195
  go_wp2
  go_ret
  exact HNO.out _ HX0.out
 subst h3
 obtain⟨q0,q1,q2,rfl⟩:=list3 hn
 clear hn
 iterate 1
  have p0:w.cell? ⟨g,0,none⟩=some (.string q0):=hp 0 (by simp)
  have p1:w.cell? ⟨g,1,none⟩=some (.string q1):=hp 1 (by simp)
  have p2:w.cell? ⟨g,2,none⟩=some (.string q2):=hp 2 (by simp)
  have z0:=hz q0 (by simp);have z1:=hz q1 (by simp);have z2:=hz q2 (by simp)
  clear hp h hz hg hx0
  by_cases h0:q0.size=0
  ·have he:=emp_of_size h0
   go_enter Tryz.func195,Tryz.ntmps195
   go_wp2
   go_ret
   exact HNO.out _ HX0.out
  have he:=nemp_bool (show 0 < q0.size by omega)
  by_cases h1:q1.size=0
  ·have he1:=emp_of_size h1
   go_enter Tryz.func195,Tryz.ntmps195
   go_wp2
   go_ret
   exact HNO.out _ HX0.out
  have he1:=nemp_bool (show 0 < q1.size by omega)
  by_cases h2:q2.size=0
  ·have he2:=emp_of_size h2
   go_enter Tryz.func195,Tryz.ntmps195
   go_wp2
   go_ret
   exact HNO.out _ HX0.out
  have he2:=nemp_bool (show 0 < q2.size by omega)
  go_enter Tryz.func195,Tryz.ntmps195
  go_wp2_with fail
  refine (Parse_any q1 _ (HG.out.ext HX0.out) z1).mono ?_
  rintro e w1 ⟨eb,rfl,heb,hez,hx1⟩
  rw[bs_length] at hez
  generalize (parseV (bs q1)).1.1=a1 at *
  generalize (parseV (bs q1)).1.2.1=a2 at *
  generalize (parseV (bs q1)).1.2.2.1=a3 at *
  generalize (parseV (bs q1)).2=er at *
  have r0:=hx1.cell p0;have r2:=hx1.cell p2
  have h1:=HS.out.ext hx1
  have hgB:g≠b:=fun e=>by
   have h3:=HS.out.blk.cell 1
   rw[<-e,p1] at h3
   simp at h3
  have hvB:w1.heap.size≠b:=by have:=h1.blk.lt;omega
  clear p0 p1 p2 heb
  have hbase:=h1.base
  have hxv:Ext w1 (w1.alloc (.cells #[.int .i64 a1,.int .i64 a2,.int .i64 a3,.string eb] 23)):=(Ext.refl w1).alloc _
  have bV:=Blk.new w1 23 #[.int .i64 a1,.int .i64 a2,.int .i64 a3,.string eb]
  generalize hW2:w1.alloc (.cells #[.int .i64 a1,.int .i64 a2,.int .i64 a3,.string eb] 23)=W2 at *
  have HW2:=Hy hW2
  clear hW2
  have h5:=h1.ext hxv
  have HX2:=Hy ((HX0.out.trans hx1).trans hxv)
  have B5:=Hy h5.blk
  obtain⟨xs,ho,hof⟩:=h5.own
  have HOW:=Hy ho;have HOF:=Hy hof;have HSM:=Hy h5.small;have HCZ:=Hy h5.cz
  have c3:W2.cell? ⟨b,3,none⟩=some v:=h5.blk.cell 3
  have c4:=hxv.cell r0;have c5:=hxv.cell r2
  have c6:W2.cell? ⟨w1.heap.size,0,none⟩=some (.int .i64 a1):=bV.cell 0
  have c7:W2.cell? ⟨w1.heap.size,1,none⟩=some (.int .i64 a2):=bV.cell 1
  have c8:W2.cell? ⟨w1.heap.size,2,none⟩=some (.int .i64 a3):=bV.cell 2
  have c9:W2.cell? ⟨w1.heap.size,3,none⟩=some (.string eb):=bV.cell 3
  have hneB:some b≠v.ownBlock:=fun e=>by have:=(hbase b e.symm).1;omega
  have hneG:some g≠v.ownBlock:=fun e=>hgv e.symm
  have hneV:some w1.heap.size≠v.ownBlock:=fun e=>by have:=(hbase _ e.symm).2;omega
  have HNB:=Hy hneB;have HNG:=Hy hneG;have HNV:=Hy hneV
  have lb:=lt_of_cell c3;have lg:=lt_of_cell c4;have lv:=lt_of_cell c6
  have hbB:b+1<=W2.heap.size:=lb
  have HBASE:=Hy (fun k (e:v.ownBlock=some k)=>(HOW.out.lt k e))
  have fb:=h5.blk.free
  clear h1 h5 ho hof bV r0 r2 hneB hneG hneV hbase hgv hx1 hxv
  go_wp2_with fail
  try rw[HW2.out]
  obtain⟨i0,hi0,hz0,hz1',hz2'⟩:=info_parts info_offer
  refine wp_region_held_drew (S:=(fun w'=>w'.cell? ⟨g,0,none⟩=some (.string q0)∧w'.cell? ⟨g,2,none⟩=some (.string q2)∧w'.cell? ⟨w1.heap.size,0,none⟩=some (.int .i64 a1)∧w'.cell? ⟨w1.heap.size,1,none⟩=some (.int .i64 a2)∧w'.cell? ⟨w1.heap.size,2,none⟩=some (.int .i64 a3)∧w'.cell? ⟨w1.heap.size,3,none⟩=some (.string eb))) (by kernel_rfl) ?hS0 (fun hHeld=>?rest0)
  case hS0=>((try dsimp only);(first|exact⟨k4,k5,k6,k7,k8,k9⟩|exact⟨cell_set_far hgB k4,cell_set_far hgB k5,cell_set_far hvB k6,cell_set_far hvB k7,cell_set_far hvB k8,cell_set_far hvB k9⟩|(go_keep;done)))
  refine wpAnyH_take (i:=0) (v:=?_) rfl (by kernel_rfl) (by kernel_rfl) (by kernel_rfl) (fun _ _ _ h=>h) (Or.inl ⟨by rfl,?_⟩) (by assumption) ?_
  rotate_left
  focus ((intro w hSw);(try dsimp only at hSw);go_simp;try with_reducible rfl)
  try simp only[Act.put,List.setIfInBounds_toArray]
  refine wpAnyH_take (i:=1) (v:=?_) rfl (by kernel_rfl) (by kernel_rfl) (by kernel_rfl) (fun _ _ _ h=>h) (Or.inl ⟨by rfl,?_⟩) (by assumption) ?_
  rotate_left
  focus ((intro w hSw);(try dsimp only at hSw);go_simp;try with_reducible rfl)
  try simp only[Act.put]
  refine wpAnyH_take (i:=2) (v:=?_) rfl (by kernel_rfl) (by kernel_rfl) (by kernel_rfl) (fun _ _ _ h=>h) (Or.inl ⟨by rfl,?_⟩) (by assumption) ?_
  rotate_left
  focus ((intro w hSw);(try dsimp only at hSw);go_simp;try with_reducible rfl)
  try simp only[Act.put]
  refine wpAnyH_take (i:=3) (v:=?_) rfl (by kernel_rfl) (by kernel_rfl) (by kernel_rfl) (fun _ _ _ h=>h) (Or.inl ⟨by rfl,?_⟩) (by assumption) ?_
  rotate_left
  focus ((intro w hSw);(try dsimp only at hSw);go_simp;try with_reducible rfl)
  try simp only[Act.put]
  refine wpAnyH_take (i:=4) (v:=?_) rfl (by kernel_rfl) (by kernel_rfl) (by kernel_rfl) (fun _ _ _ h=>h) (Or.inl ⟨by rfl,?_⟩) (by assumption) ?_
  rotate_left
  focus ((intro w hSw);(try dsimp only at hSw);go_simp;try with_reducible rfl)
  try simp only[Act.put]
  refine wpAnyH_take (i:=6) (v:=?_) rfl (by kernel_rfl) (by kernel_rfl) (by kernel_rfl) (fun _ _ _ h=>h) (Or.inl ⟨by rfl,?_⟩) (by assumption) ?_
  rotate_left
  focus ((intro w hSw);(try dsimp only at hSw);go_simp;try with_reducible rfl)
  try simp only[Act.put]
  refine wpAnyH_take (i:=7) (v:=?_) rfl (by kernel_rfl) (by kernel_rfl) (by kernel_rfl) (fun _ _ _ h=>h) (Or.inl ⟨by rfl,?_⟩) (by assumption) ?_
  rotate_left
  focus ((intro w hSw);(try dsimp only at hSw);go_simp;try with_reducible rfl)
  try simp only[Act.put]
  refine wpAnyH_take (i:=8) (v:=?_) rfl (by kernel_rfl) (by kernel_rfl) (by kernel_rfl) (fun _ _ _ h=>h) (Or.inl ⟨by rfl,?_⟩) (by assumption) ?_
  rotate_left
  focus ((intro w hSw);(try dsimp only at hSw);go_simp;try with_reducible rfl)
  try simp only[Act.put]
  refine wpAnyH_take (i:=9) (v:=?_) rfl (by kernel_rfl) (by kernel_rfl) (by kernel_rfl) (fun _ _ _ h=>h) (Or.inl ⟨by rfl,?_⟩) (by assumption) ?_
  rotate_left
  focus ((intro w hSw);(try dsimp only at hSw);go_simp;try with_reducible rfl)
  try simp only[Act.put]
  refine wpAnyH_take (i:=10) (v:=?_) rfl (by kernel_rfl) (by kernel_rfl) (by kernel_rfl) (fun _ _ _ h=>h) (Or.inl ⟨by rfl,?_⟩) (by assumption) ?_
  rotate_left
  focus ((intro w hSw);(try dsimp only at hSw);go_simp;try with_reducible rfl)
  try simp only[Act.put]
  refine wpAnyH_take (i:=11) (v:=?_) rfl (by kernel_rfl) (by kernel_rfl) (by kernel_rfl) (fun _ _ _ h=>h) (Or.inl ⟨by rfl,?_⟩) (by assumption) ?_
  rotate_left
  focus ((intro w hSw);(try dsimp only at hSw);go_simp;try with_reducible rfl)
  try simp only[Act.put]
  refine wpAnyH_take (i:=12) (v:=?_) rfl (by kernel_rfl) (by kernel_rfl) (by kernel_rfl) (fun _ _ _ h=>h) (Or.inl ⟨by rfl,?_⟩) (by assumption) ?_
  rotate_left
  focus ((intro w hSw);(try dsimp only at hSw);go_simp;try with_reducible rfl)
  try simp only[Act.put]
  refine wpAnyH_take (i:=13) (v:=?_) rfl (by kernel_rfl) (by kernel_rfl) (by kernel_rfl) (fun _ _ _ h=>h) (Or.inl ⟨by rfl,?_⟩) (by assumption) ?_
  rotate_left
  focus ((intro w hSw);(try dsimp only at hSw);go_simp;try with_reducible rfl)
  try simp only[Act.put]
  refine wpAnyH_take (i:=14) (v:=?_) rfl (by kernel_rfl) (by kernel_rfl) (by kernel_rfl) (fun _ _ _ h=>h) (Or.inl ⟨by rfl,?_⟩) (by assumption) ?_
  rotate_left
  focus ((intro w hSw);(try dsimp only at hSw);go_simp;try with_reducible rfl)
  try simp only[Act.put]
  refine wpAnyH_ready (rs:=[5,15]) (by kernel_rfl) (by simp) ?_
  refine AllReadyH.cons rfl (fun K hK=>?_) (AllReadyH.cons rfl (fun K hK=>?_) AllReadyH.nil)
  ·skip
   go_simp
   refine hK.out _ _ ?_ (fun hHeld=>?_)
   ·((try dsimp only);(first|exact⟨k4,k5,k6,k7,k8,k9⟩|exact⟨cell_set_far hgB k4,cell_set_far hgB k5,cell_set_far hvB k6,cell_set_far hvB k7,cell_set_far hvB k8,cell_set_far hvB k9⟩|(go_keep;done)))
   clear hK K
   try simp only[Act.put,List.setIfInBounds_toArray,List.set_cons_zero,List.set_cons_succ]
   refine wpAnyH_ready (rs:=[15]) (by kernel_rfl) (by simp) ?_
   refine AllReadyH.cons rfl (fun K hK=>?_) AllReadyH.nil
   go_simp
   refine hK.out _ _ ?_ (fun hHeld=>?_)
   ·((try dsimp only);(first|exact⟨k4,k5,k6,k7,k8,k9⟩|exact⟨cell_set_far hgB k4,cell_set_far hgB k5,cell_set_far hvB k6,cell_set_far hvB k7,cell_set_far hvB k8,cell_set_far hvB k9⟩|(go_keep;done)))
   clear hK K
   try simp only[Act.put,List.setIfInBounds_toArray,List.set_cons_zero,List.set_cons_succ]
   refine wpAnyH_ready (rs:=[16]) (by kernel_rfl) (by simp) ?_
   refine AllReadyH.cons rfl (fun K hK=>?_) AllReadyH.nil
   refine step_append_lies _ (by rfl) _ _ _ (by rfl) (b+1) 66 i0 _ 18 200 Tryz.underlying57 hi0 hz0 hz1' hz2' rfl (by omega) v l.length xs (by rfl) (own_ext HOW.out (((Ext.refl W2).alloc _).drew)) ⟨W2.heap.size,0,none⟩ 1 1 [.string q0,.int .i64 a1,.int .i64 a2,.int .i64 a3,.string eb,.string q2,.slice none 0 0,.bool false,.int .i64 1,.string ⟨#[]⟩,.string ⟨#[]⟩,.slice none 0 0,.int .i64 0,.int .i64 0,.int .i64 0,.bool false,.bool false,.bool false] (by rfl) (by rfl) (World.news_of_block (cs:=#[.string q0,.int .i64 a1,.int .i64 a2,.int .i64 a3,.string eb,.string q2,.slice none 0 0,.bool false,.int .i64 1,.string ⟨#[]⟩,.string ⟨#[]⟩,.slice none 0 0,.int .i64 0,.int .i64 0,.int .i64 0,.bool false,.bool false,.bool false]) (t:=66) (fr:=(0,0)) (heap_alloc_new _ _)) (by simp[Value.oneCell']) (by omega) (by simp only[maxLen];omega) (by omega) (by rw[World.size_drew,World.size_alloc];omega) (W2.heap.size+1) (by simp) ?_
   intro gN cN w6 hown6 hgrow hat hlt6
   (have xA:Ext W2 (World.drew (W2.alloc (.cells #[.string q0,.int .i64 a1,.int .i64 a2,.int .i64 a3,.string eb,.string q2,.slice none 0 0,.bool false,.int .i64 1,.string ⟨#[]⟩,.string ⟨#[]⟩,.slice none 0 0,.int .i64 0,.int .i64 0,.int .i64 0,.bool false,.bool false,.bool false] 66))):=((Ext.refl W2).alloc _).drew)
   (have hzz:=xA.size)
   (have k3:=(hgrow.cell_far ⟨b,3,none⟩ (by dsimp only;omega) HNB.out).trans (xA.cell c3))
   (have k4:=(hgrow.cell_far ⟨g,0,none⟩ (by dsimp only;omega) HNG.out).trans (xA.cell c4))
   (have k5:=(hgrow.cell_far ⟨g,2,none⟩ (by dsimp only;omega) HNG.out).trans (xA.cell c5))
   (have k6:=(hgrow.cell_far ⟨w1.heap.size,0,none⟩ (by dsimp only;omega) HNV.out).trans (xA.cell c6))
   (have k7:=(hgrow.cell_far ⟨w1.heap.size,1,none⟩ (by dsimp only;omega) HNV.out).trans (xA.cell c7))
   (have k8:=(hgrow.cell_far ⟨w1.heap.size,2,none⟩ (by dsimp only;omega) HNV.out).trans (xA.cell c8))
   (have k9:=(hgrow.cell_far ⟨w1.heap.size,3,none⟩ (by dsimp only;omega) HNV.out).trans (xA.cell c9))
   (have kf:=(hgrow.frozen_far ⟨b,3,none⟩ (by dsimp only;omega) HNB.out).trans ((xA.cells.2 b 3 lb).trans (fb 3)))
   refine hK.out _ _ ?_ (fun hHeld=>?_)
   ·((try dsimp only);(first|exact⟨k4,k5,k6,k7,k8,k9⟩|exact⟨cell_set_far hgB k4,cell_set_far hgB k5,cell_set_far hvB k6,cell_set_far hvB k7,cell_set_far hvB k8,cell_set_far hvB k9⟩|(go_keep;done)))
   clear hK K
   try simp only[Act.put,List.setIfInBounds_toArray]
   refine wpAnyH_take (i:=17) (v:=?_) rfl (by kernel_rfl) (by kernel_rfl) (by kernel_rfl) (fun _ _ _ h=>h) (Or.inl ⟨by rfl,?_⟩) (by assumption) ?_
   rotate_left
   focus ((intro w hSw);(try dsimp only at hSw);go_simp;try with_reducible rfl)
   try simp only[Act.put]
   refine wpAnyH_take (i:=18) (v:=?_) rfl (by kernel_rfl) (by kernel_rfl) (by kernel_rfl) (fun _ _ _ h=>h) (Or.inl ⟨by rfl,?_⟩) (by assumption) ?_
   rotate_left
   focus ((intro w hSw);(try dsimp only at hSw);go_simp;try with_reducible rfl)
   try simp only[Act.put]
   refine wpAnyH_take (i:=19) (v:=?_) rfl (by kernel_rfl) (by kernel_rfl) (by kernel_rfl) (fun _ _ _ h=>h) (Or.inl ⟨by rfl,?_⟩) (by assumption) ?_
   rotate_left
   focus ((intro w hSw);(try dsimp only at hSw);go_simp;try with_reducible rfl)
   try simp only[Act.put]
   refine wpAnyH_ready (rs:=[20]) (by kernel_rfl) (by simp) ?_
   refine AllReadyH.cons rfl (fun K hK=>?_) AllReadyH.nil
   go_simp
   refine hK.out _ _ ?_ (fun hHeld=>?_)
   ·((try dsimp only);(first|exact⟨k4,k5,k6,k7,k8,k9⟩|exact⟨cell_set_far hgB k4,cell_set_far hgB k5,cell_set_far hvB k6,cell_set_far hvB k7,cell_set_far hvB k8,cell_set_far hvB k9⟩|(go_keep;done)))
   clear hK K
   try simp only[Act.put,List.setIfInBounds_toArray,List.set_cons_zero,List.set_cons_succ]
   refine wpAnyH_done (by kernel_rfl) ?_ _
   have b6:=blk_turnedF (B5.out.ext xA) hgrow HNB.out
   have hx6:Ext w0 w6:=(HX2.out.trans xA).grown (own_ext HOW.out (((Ext.refl W2).alloc _).drew)) (by omega) hgrow
   have hR7:RSt (w6.setCell ⟨b,3,none⟩ (.slice (some ⟨gN,0,none⟩) (l.length+1) cN)) b ch sr tm (.slice (some ⟨gN,0,none⟩) (l.length+1) cN) (l++[newO q0 ⟨a1,a2,a3,eb⟩ q2]) st fl:=by
    refine⟨b6.set 3 _,⟨_,by rw[List.length_append,List.length_singleton];exact ownsRow_setCell_below hown6 (Nat.lt_succ_self _) _,?_⟩,fun q hq=>?_,HCZ.out⟩
    ·refine OffsIn.snoc (o:=newO q0 ⟨a1,a2,a3,eb⟩ q2) (A:=none) (c:=0) (k:=1) (n:=⟨#[]⟩) (x:=⟨#[]⟩) (A2:=none) (m:=0) (c2:=0) ⟨fun h=>absurd rfl h,CdIn.leaf _ _ _ _ _⟩ ?_
     refine HOF.out.keep (fun j hj hk=>?_) (fun j i u hk e=>?_)
     ·refine far_slice.2 ⟨hk.1,fun e=>?_⟩
      subst e
      rcases hat with h|h
      ·exact hk.2 h
      ·omega
     ·have hj:=lt_of_cell e
      refine cell_set_far (by have:=hk.1;dsimp only;omega) ?_
      exact (hgrow.cell_far ⟨j,i,none⟩ (by dsimp only;omega) (fun e=>hk.2 e.symm)).trans (xA.cell e)
    ·rcases List.mem_append.1 hq with h1|h1
     ·exact HSM.out q h1
     ·rw[List.mem_singleton] at h1
      subst h1
      exact⟨by show q0.size<=_;omega,by show eb.size<=_;omega,by show q2.size<=_;omega,(fun x hx=>by cases hx),by simp[newO],.mk _ _ _ _ (by decide) (by decide) (by decide) (fun _ h=>by cases h),by simp[newO,cnt,cnts]⟩
   have HR9:=Hy ((hR7.mark 2).note er)
   have CN:=Hy (noted_any b ch sr tm 2 fl _ _ (hR7.mark 2).blk er)
   have hx7:=(hx6.setCell (p:=⟨b,3,none⟩) hB (.slice (some ⟨gN,0,none⟩) (l.length+1) cN)).setCell (p:=⟨b,4,none⟩) hB (.int .i64 2)
   have HX9:=Hy (hx7.setCell (p:=⟨b,5,none⟩) hB (.int .i64 er))
   have b7:=hR7.blk
   have l7:=b7.lt;have f7:=b7.free;have e7:=b7.cell
   clear c3 c4 c5 c6 c7 c8 c9 k3 k4 k5 k6 k7 k8 k9 hgrow hat hown6 b6 hR7 hx6 hx7
   go_wp2_with fail
   refine CN.out.mono ?_
   rintro e w' ⟨rfl,rfl⟩
   clear e7 f7 l7
   go_wp2
   go_ret
   exact⟨true,rfl,HX9.out,fun _=>⟨_,_,_,HR9.out⟩⟩
  ·skip
   go_simp
   refine hK.out _ _ ?_ (fun hHeld=>?_)
   ·((try dsimp only);(first|exact⟨k4,k5,k6,k7,k8,k9⟩|exact⟨cell_set_far hgB k4,cell_set_far hgB k5,cell_set_far hvB k6,cell_set_far hvB k7,cell_set_far hvB k8,cell_set_far hvB k9⟩|(go_keep;done)))
   clear hK K
   try simp only[Act.put,List.setIfInBounds_toArray,List.set_cons_zero,List.set_cons_succ]
   refine wpAnyH_ready (rs:=[5]) (by kernel_rfl) (by simp) ?_
   refine AllReadyH.cons rfl (fun K hK=>?_) AllReadyH.nil
   go_simp
   refine hK.out _ _ ?_ (fun hHeld=>?_)
   ·((try dsimp only);(first|exact⟨k4,k5,k6,k7,k8,k9⟩|exact⟨cell_set_far hgB k4,cell_set_far hgB k5,cell_set_far hvB k6,cell_set_far hvB k7,cell_set_far hvB k8,cell_set_far hvB k9⟩|(go_keep;done)))
   clear hK K
   try simp only[Act.put,List.setIfInBounds_toArray,List.set_cons_zero,List.set_cons_succ]
   refine wpAnyH_ready (rs:=[16]) (by kernel_rfl) (by simp) ?_
   refine AllReadyH.cons rfl (fun K hK=>?_) AllReadyH.nil
   refine step_append_lies _ (by rfl) _ _ _ (by rfl) (b+1) 66 i0 _ 18 200 Tryz.underlying57 hi0 hz0 hz1' hz2' rfl (by omega) v l.length xs (by rfl) (own_ext HOW.out (((Ext.refl W2).alloc _).drew)) ⟨W2.heap.size,0,none⟩ 1 1 [.string q0,.int .i64 a1,.int .i64 a2,.int .i64 a3,.string eb,.string q2,.slice none 0 0,.bool false,.int .i64 1,.string ⟨#[]⟩,.string ⟨#[]⟩,.slice none 0 0,.int .i64 0,.int .i64 0,.int .i64 0,.bool false,.bool false,.bool false] (by rfl) (by rfl) (World.news_of_block (cs:=#[.string q0,.int .i64 a1,.int .i64 a2,.int .i64 a3,.string eb,.string q2,.slice none 0 0,.bool false,.int .i64 1,.string ⟨#[]⟩,.string ⟨#[]⟩,.slice none 0 0,.int .i64 0,.int .i64 0,.int .i64 0,.bool false,.bool false,.bool false]) (t:=66) (fr:=(0,0)) (heap_alloc_new _ _)) (by simp[Value.oneCell']) (by omega) (by simp only[maxLen];omega) (by omega) (by rw[World.size_drew,World.size_alloc];omega) (W2.heap.size+1) (by simp) ?_
   intro gN cN w6 hown6 hgrow hat hlt6
   (have xA:Ext W2 (World.drew (W2.alloc (.cells #[.string q0,.int .i64 a1,.int .i64 a2,.int .i64 a3,.string eb,.string q2,.slice none 0 0,.bool false,.int .i64 1,.string ⟨#[]⟩,.string ⟨#[]⟩,.slice none 0 0,.int .i64 0,.int .i64 0,.int .i64 0,.bool false,.bool false,.bool false] 66))):=((Ext.refl W2).alloc _).drew)
   (have hzz:=xA.size)
   (have k3:=(hgrow.cell_far ⟨b,3,none⟩ (by dsimp only;omega) HNB.out).trans (xA.cell c3))
   (have k4:=(hgrow.cell_far ⟨g,0,none⟩ (by dsimp only;omega) HNG.out).trans (xA.cell c4))
   (have k5:=(hgrow.cell_far ⟨g,2,none⟩ (by dsimp only;omega) HNG.out).trans (xA.cell c5))
   (have k6:=(hgrow.cell_far ⟨w1.heap.size,0,none⟩ (by dsimp only;omega) HNV.out).trans (xA.cell c6))
   (have k7:=(hgrow.cell_far ⟨w1.heap.size,1,none⟩ (by dsimp only;omega) HNV.out).trans (xA.cell c7))
   (have k8:=(hgrow.cell_far ⟨w1.heap.size,2,none⟩ (by dsimp only;omega) HNV.out).trans (xA.cell c8))
   (have k9:=(hgrow.cell_far ⟨w1.heap.size,3,none⟩ (by dsimp only;omega) HNV.out).trans (xA.cell c9))
   (have kf:=(hgrow.frozen_far ⟨b,3,none⟩ (by dsimp only;omega) HNB.out).trans ((xA.cells.2 b 3 lb).trans (fb 3)))
   refine hK.out _ _ ?_ (fun hHeld=>?_)
   ·((try dsimp only);(first|exact⟨k4,k5,k6,k7,k8,k9⟩|exact⟨cell_set_far hgB k4,cell_set_far hgB k5,cell_set_far hvB k6,cell_set_far hvB k7,cell_set_far hvB k8,cell_set_far hvB k9⟩|(go_keep;done)))
   clear hK K
   try simp only[Act.put,List.setIfInBounds_toArray]
   refine wpAnyH_take (i:=17) (v:=?_) rfl (by kernel_rfl) (by kernel_rfl) (by kernel_rfl) (fun _ _ _ h=>h) (Or.inl ⟨by rfl,?_⟩) (by assumption) ?_
   rotate_left
   focus ((intro w hSw);(try dsimp only at hSw);go_simp;try with_reducible rfl)
   try simp only[Act.put]
   refine wpAnyH_take (i:=18) (v:=?_) rfl (by kernel_rfl) (by kernel_rfl) (by kernel_rfl) (fun _ _ _ h=>h) (Or.inl ⟨by rfl,?_⟩) (by assumption) ?_
   rotate_left
   focus ((intro w hSw);(try dsimp only at hSw);go_simp;try with_reducible rfl)
   try simp only[Act.put]
   refine wpAnyH_take (i:=19) (v:=?_) rfl (by kernel_rfl) (by kernel_rfl) (by kernel_rfl) (fun _ _ _ h=>h) (Or.inl ⟨by rfl,?_⟩) (by assumption) ?_
   rotate_left
   focus ((intro w hSw);(try dsimp only at hSw);go_simp;try with_reducible rfl)
   try simp only[Act.put]
   refine wpAnyH_ready (rs:=[20]) (by kernel_rfl) (by simp) ?_
   refine AllReadyH.cons rfl (fun K hK=>?_) AllReadyH.nil
   go_simp
   refine hK.out _ _ ?_ (fun hHeld=>?_)
   ·((try dsimp only);(first|exact⟨k4,k5,k6,k7,k8,k9⟩|exact⟨cell_set_far hgB k4,cell_set_far hgB k5,cell_set_far hvB k6,cell_set_far hvB k7,cell_set_far hvB k8,cell_set_far hvB k9⟩|(go_keep;done)))
   clear hK K
   try simp only[Act.put,List.setIfInBounds_toArray,List.set_cons_zero,List.set_cons_succ]
   refine wpAnyH_done (by kernel_rfl) ?_ _
   have b6:=blk_turnedF (B5.out.ext xA) hgrow HNB.out
   have hx6:Ext w0 w6:=(HX2.out.trans xA).grown (own_ext HOW.out (((Ext.refl W2).alloc _).drew)) (by omega) hgrow
   have hR7:RSt (w6.setCell ⟨b,3,none⟩ (.slice (some ⟨gN,0,none⟩) (l.length+1) cN)) b ch sr tm (.slice (some ⟨gN,0,none⟩) (l.length+1) cN) (l++[newO q0 ⟨a1,a2,a3,eb⟩ q2]) st fl:=by
    refine⟨b6.set 3 _,⟨_,by rw[List.length_append,List.length_singleton];exact ownsRow_setCell_below hown6 (Nat.lt_succ_self _) _,?_⟩,fun q hq=>?_,HCZ.out⟩
    ·refine OffsIn.snoc (o:=newO q0 ⟨a1,a2,a3,eb⟩ q2) (A:=none) (c:=0) (k:=1) (n:=⟨#[]⟩) (x:=⟨#[]⟩) (A2:=none) (m:=0) (c2:=0) ⟨fun h=>absurd rfl h,CdIn.leaf _ _ _ _ _⟩ ?_
     refine HOF.out.keep (fun j hj hk=>?_) (fun j i u hk e=>?_)
     ·refine far_slice.2 ⟨hk.1,fun e=>?_⟩
      subst e
      rcases hat with h|h
      ·exact hk.2 h
      ·omega
     ·have hj:=lt_of_cell e
      refine cell_set_far (by have:=hk.1;dsimp only;omega) ?_
      exact (hgrow.cell_far ⟨j,i,none⟩ (by dsimp only;omega) (fun e=>hk.2 e.symm)).trans (xA.cell e)
    ·rcases List.mem_append.1 hq with h1|h1
     ·exact HSM.out q h1
     ·rw[List.mem_singleton] at h1
      subst h1
      exact⟨by show q0.size<=_;omega,by show eb.size<=_;omega,by show q2.size<=_;omega,(fun x hx=>by cases hx),by simp[newO],.mk _ _ _ _ (by decide) (by decide) (by decide) (fun _ h=>by cases h),by simp[newO,cnt,cnts]⟩
   have HR9:=Hy ((hR7.mark 2).note er)
   have CN:=Hy (noted_any b ch sr tm 2 fl _ _ (hR7.mark 2).blk er)
   have hx7:=(hx6.setCell (p:=⟨b,3,none⟩) hB (.slice (some ⟨gN,0,none⟩) (l.length+1) cN)).setCell (p:=⟨b,4,none⟩) hB (.int .i64 2)
   have HX9:=Hy (hx7.setCell (p:=⟨b,5,none⟩) hB (.int .i64 er))
   have b7:=hR7.blk
   have l7:=b7.lt;have f7:=b7.free;have e7:=b7.cell
   clear c3 c4 c5 c6 c7 c8 c9 k3 k4 k5 k6 k7 k8 k9 hgrow hat hown6 b6 hR7 hx6 hx7
   go_wp2_with fail
   refine CN.out.mono ?_
   rintro e w' ⟨rfl,rfl⟩
   clear e7 f7 l7
   go_wp2
   go_ret
   exact⟨true,rfl,HX9.out,fun _=>⟨_,_,_,HR9.out⟩⟩
end
end Go.Proofs.YtmnafaaijglnfaaGreatDoor
