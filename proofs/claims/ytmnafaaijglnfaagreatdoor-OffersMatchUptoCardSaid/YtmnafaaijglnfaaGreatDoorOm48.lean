/- The law OffersMatch. (Printed by gen/omq.py.) -/
import Derived.Test.YtmnafaaijglnfaaGreatDoorOm39
import Derived.Test.YtmnafaaijglnfaaGreatDoorOm36
import Derived.Test.YtmnafaaijglnfaaGreatDoorOm38
import Derived.Test.YtmnafaaijglnfaaGreatDoorOm47
namespace Go.Proofs.YtmnafaaijglnfaaGreatDoor
open Go.RowKit
theorem first2_anyO (a b:Int) (g c:Nat) (W:World) (hg:g=W.heap.size) :
 Calls Tryz.prog 11 #[.slice (some ⟨g,0,none⟩) 2 c] (W.alloc (.cells #[.int .i64 a,.int .i64 b] 24)) fun e w'=>e=.returned (.int .i64 (firstI [a,b]))∧Ext W w':=by
 subst hg
 exact (First_any W.heap.size c [a,b] _ (by intro k hk;rw[(Blk.new W 24 #[.int .i64 a,.int .i64 b]).cell];match k,hk with|0,_=>rfl|1,_=>rfl) (by simp)).mono fun e w' h=>⟨h.1,h.2 ▸ (Ext.refl W).alloc _⟩
theorem first3_anyO (a b d:Int) (g c:Nat) (W:World) (hg:g=W.heap.size) :
 Calls Tryz.prog 11 #[.slice (some ⟨g,0,none⟩) 3 c] (W.alloc (.cells #[.int .i64 a,.int .i64 b,.int .i64 d] 24)) fun e w'=>e=.returned (.int .i64 (firstI [a,b,d]))∧Ext W w':=by
 subst hg
 exact (First_any W.heap.size c [a,b,d] _ (by intro k hk;rw[(Blk.new W 24 #[.int .i64 a,.int .i64 b,.int .i64 d]).cell];match k,hk with|0,_=>rfl|1,_=>rfl|2,_=>rfl) (by simp)).mono fun e w' h=>⟨h.1,h.2 ▸ (Ext.refl W).alloc _⟩
theorem small_zeroO:SmallO zeroO:=⟨by decide,by decide,by decide,fun _ h=>(by cases h),by decide,SmallC.mk _ _ _ _ (by decide) (by decide) (by decide) (fun _ h=>(by cases h)),by decide⟩
theorem small_offO {l:List Of} (hs:∀ o∈l,SmallO o) (R:Int × Int):SmallO (offO l R):=by
 unfold offO
 split
 ·by_cases h:R.1.toNat < l.length
  ·rw[getD_atO h];exact hs _ (List.getElem_mem h)
  ·rw[List.getD_eq_getElem?_getD,List.getElem?_eq_none (by omega)]
   exact small_zeroO
 ·exact small_zeroO
set_option maxHeartbeats 16000000 in
set_option maxRecDepth 100000 in
theorem OffersMatch_any (ch:ByteArray) (sr tm:Int) (l:List Of) (A:Option Addr) (n c:Nat) (mc:Mac) (A':Option Addr) (n' c':Nat) (Af:Option Addr) (nf cf:Nat) (As:Option Addr) (ns cs:Nat) (Ap:Option Addr) (np cp:Nat) (nm:ByteArray) (t te:Int) (w:World) (hg:GoodS w) (hn:l.length=n) (hr:RdO w A l) (hs:∀ o∈l,SmallO o) (hch:ch.size<=2097152) (hl:n<=2097152) (hm:MacIn w mc A' n' Af nf As ns Ap np cp) (hsm:SmallM mc) (hli:n'<=2000000) (hnm:nm.size<=2097152) :
 Calls Tryz.prog 9 #[.agg #[.string ch,.int .i64 sr,.int .i64 tm,.slice A n c],macV mc A' n' c' Af nf cf As ns cs Ap np cp,.string nm,.int .i64 t,.int .i64 te] w fun e w'=>e=.returned (.bool true)∧Ext w w':=by
 have hgN:=hg.toGoodN
 have CME:=Hy (fun W (h:Ext w W)=>MachineError_any mc A' n' c' Af nf cf As ns cs Ap np cp W (hgN.ext h) (hm.ext h) hsm)
 have CTE:=Hy (fun W=>timeErr_any t W)
 have CFS:=Hy (fun W (h:Ext w W)=>feeds_any W (hgN.ext h))
 have CFI:=Hy (fun o (hmem:o∈l) A c k n x A2 m c2 W (h:Ext w W) (hi:OfIn AnyB W o A k n x A2 m c2)=>Fits_any o A c k n x A2 m c2 mc A' n' c' Af nf cf As ns cs Ap np cp t W (hgN.ext h) hi (hs o hmem) (hm.ext h) hsm)
 have COE:=Hy (fun o (hmem:o∈l) A c k n x A2 m c2 W (h:Ext w W) (hi:OfIn AnyB W o A k n x A2 m c2)=>OfferError_any o A c k n x A2 m c2 W (hgN.ext h) hi (hs o hmem))
 have CFO:=Hy (fun o (hmem:o∈l) (he:fitE o mc t=0) A c k n x A2 m c2 W (h:Ext w W) (hi:OfIn AnyB W o A k n x A2 m c2) =>
  show Calls Tryz.prog 63 #[ofV o A c k n x A2 m c2,macV mc A' n' c' Af nf cf As ns cs Ap np cp,.int .i64 t] W fun e w'=>e=.returned (.int .i64 (fitM o mc t))∧Ext W w' from by
   have hh:=firstI_allO he
   have h1:=hh (ofErr o) (by simp);have h2:=mat_zero (hh (matErr mc t) (by simp))
   exact FitsOf_any o A c k n x A2 m c2 mc A' n' c' Af nf cf As ns cs Ap np cp t W (hg.ext h) hi (hs o hmem) h1 (hm.ext h) hsm (MacOk.of h2.1) h2.2)
 have COD:=Hy (fun W (h:Ext w W)=>Offered_any ch sr tm l A n c mc A' n' c' Af nf cf As ns cs Ap np cp nm t W (hgN.ext h) hn (hr.ext h) hs hch hl (hm.ext h) hsm hnm)
 have CFW:=Hy (fun W (h:Ext w W)=>Follow_any ch sr tm l A n c mc A' n' c' Af nf cf As ns cs Ap np cp nm t te W (hgN.ext h) hn (hr.ext h) hs hch hl (hm.ext h) hsm hli hnm)
 have CFE:=Hy (fun W (h:Ext w W)=>FeedError_any ch sr tm l A n c W (hgN.ext h) hn (hr.ext h) hs hch hl)
 have CNO:=Hy (fun W=>NameOf_any nm W hnm)
 have CWH:=Hy (fun W=>When_any (!nameL (bs nm)) 5 W)
 have CDO:=Hy (fun (h0:ofdE ch sr tm l mc nm t=0) W (h:Ext w W)=>show Calls Tryz.prog 67 #[.agg #[.string ch,.int .i64 sr,.int .i64 tm,.slice A n c],macV mc A' n' c' Af nf cf As ns cs Ap np cp,.string nm,.int .i64 t] W fun e w'=>(∃ A c kk n x A2 m c2,e=.returned (.tuple #[ofV (offO l (ofdR l mc nm t)) A c kk n x A2 m c2,.int .i64 (ofdR l mc nm t).2])∧OfIn AnyB w (offO l (ofdR l mc nm t)) A kk n x A2 m c2)∧Ext W w' from by
  obtain⟨q1,q2⟩:=mat_parts h0
  have h2:=mat_zero q2
  exact OfferedOf_any ch sr tm l A n c mc A' n' c' Af nf cf As ns cs Ap np cp nm t w W h (hg.ext h) hn hr hs (fd_off (f:=⟨ch,sr,tm,l⟩) q1) hl (hm.ext h) hsm (MacOk.of h2.1) h2.2.1 h2.2.2)
 have CFF:=Hy (fun (h0:ofdE ch sr tm l mc nm t=0) (h1:t<=te) (h2:te<=1099511627776) (h3:te - t<=3600000) W (h:Ext w W)=>show Calls Tryz.prog 69 #[.agg #[.string ch,.int .i64 sr,.int .i64 tm,.slice A n c],macV mc A' n' c' Af nf cf As ns cs Ap np cp,.string nm,.int .i64 t,.int .i64 te] W fun e w'=>(∃ A' c',e=.returned (.slice A' (folL l mc nm t te).length c')∧RdO w' A' (folL l mc nm t te)∧Ext W w') from by
  obtain⟨q1,q2⟩:=mat_parts h0
  have h4:=mat_zero q2
  exact FollowOf_any ch sr tm l A n c mc A' n' c' Af nf cf As ns cs Ap np cp nm t te W (hg.ext h) hn (hr.ext h) hs (fd_off (f:=⟨ch,sr,tm,l⟩) q1) hl (hm.ext h) hsm h4.1 hli hnm h4.2.1 h1 h2 h3)
 have HTB:=Hy (fun (h0:ofdE ch sr tm l mc nm t=0)=>(mat_zero (mat_parts h0).2).2)
 have HSO:=Hy (small_offO hs (ofdR l mc nm t))
 have HFM:=Hy (fun k o (h:o∈(folS l mc nm t k).2)=>hs o (folS_mem l mc nm t k o h))
 have HFL:=Hy (folS_len l mc nm t (folK t te))
 have HN:=Hy hn;have HR:=Hy hr
 have HWH:=Hy (show (if (!nameL (bs nm))=true then (5:Int) else 0)=nmErr nm from by unfold nmErr;cases nameL (bs nm)<;>rfl)
 have HE0:=Hy (show firstI [feErr ch sr tm l,matErr mc t,nmErr nm]=ofdE ch sr tm l mc nm t from rfl)
 have HMT:=Hy (show firstI [macErr mc,timeErr t]=matErr mc t from rfl)
 clear hg hn hr hs hch hm hsm hnm hgN hli
 have HFE:=Hy (fun o=>show fitE o mc t=firstI [ofErr o,matErr mc t] from rfl)
 have HFR:=Hy (fun o (h:fitE o mc t=0)=>show fitR o mc t=fitM o mc t from if_pos h)
 have HFR2:=Hy (fun o (h:¬ fitE o mc t=0)=>show fitR o mc t=0 from if_neg h)
 rw[HWH.out] at CWH
 clear HWH
 obtain⟨fE,hfE⟩:∃ f:Of->Int,f=fun o=>fitE o mc t:=⟨_,rfl⟩
 obtain⟨fR,hfR⟩:∃ f:Of->Int,f=fun o=>fitR o mc t:=⟨_,rfl⟩
 obtain⟨fM,hfM⟩:∃ f:Of->Int,f=fun o=>fitM o mc t:=⟨_,rfl⟩
 replace CFI:=Hy (fun o hmem A c k n x A2 m c2 W h hi=>show Calls Tryz.prog 62 #[ofV o A c k n x A2 m c2,macV mc A' n' c' Af nf cf As ns cs Ap np cp,.int .i64 t] W fun e w'=>e=.returned (.tuple #[.int .i64 (fR o),.int .i64 (fE o)])∧Ext W w' from by rw[hfE,hfR];exact CFI.out o hmem A c k n x A2 m c2 W h hi)
 replace CFO:=Hy (fun o hmem (he:fE o=0) A c k n x A2 m c2 W h hi=>show Calls Tryz.prog 63 #[ofV o A c k n x A2 m c2,macV mc A' n' c' Af nf cf As ns cs Ap np cp,.int .i64 t] W fun e w'=>e=.returned (.int .i64 (fM o))∧Ext W w' from by rw[hfM];rw[hfE] at he;exact CFO.out o hmem he A c k n x A2 m c2 W h hi)
 replace HFE:=Hy (fun o=>show fE o=firstI [ofErr o,matErr mc t] from by rw[hfE];exact HFE.out o)
 replace HFR:=Hy (fun o (h:fE o=0)=>show fR o=fM o from by rw[hfE] at h;rw[hfR,hfM];exact HFR.out o h)
 replace HFR2:=Hy (fun o (h:¬ fE o=0)=>show fR o=0 from by rw[hfE] at h;rw[hfR];exact HFR2.out o h)
 clear hfE hfR hfM
 obtain⟨E0,hE0⟩:∃ E,E=ofdE ch sr tm l mc nm t:=⟨_,rfl⟩
 obtain⟨R0,hR0⟩:∃ R,R=ofdR l mc nm t:=⟨_,rfl⟩
 obtain⟨fo,hfo⟩:∃ f,f=folO l mc nm t te:=⟨_,rfl⟩
 have HFO0:=Hy (show fo 0=folL l mc nm t te from by rw[hfo];rfl)
 have HFO1:=Hy (show ∀ e,¬ e=0->fo e=[] from fun e h=>by rw[hfo];exact if_neg h)
 have HFSM:=Hy (show (∀ o∈folL l mc nm t te,SmallO o)∧(folL l mc nm t te).length<=folK t te from ⟨fun o h=>HFM.out (folK t te) o h,HFL.out⟩)
 clear HFM HFL
 rw[<-hE0,<-hR0] at COD
 rw[<-hE0,<-hfo] at CFW
 rw[<-hE0] at CDO CFF HE0 HTB
 rw[<-hR0] at CDO HSO
 clear hE0 hR0 hfo
 generalize folL l mc nm t te=FL at *
 generalize matErr mc t=ME at *
 generalize macErr mc=M1 at *
 generalize timeErr t=T1 at *
 generalize feErr ch sr tm l=FE at *
 generalize nmErr nm=NE at *
 generalize nameL (bs nm)=q at *
 obtain⟨mn,mi,mf,ms,mp⟩:=mc
 dsimp only[macV] at *
 have BF:=Hy (show Blk ((w.alloc (.cells #[.string ch,.int .i64 sr,.int .i64 tm,.slice A n c] 59)).alloc (.cells #[.string mn,.slice A' n' c',.slice Af nf cf,.slice As ns cs,.slice Ap np cp] 96)) w.heap.size 59 #[.string ch,.int .i64 sr,.int .i64 tm,.slice A n c] from (Blk.new w 59 #[.string ch,.int .i64 sr,.int .i64 tm,.slice A n c]).alloc _)
 have BM:=Hy (show Blk ((w.alloc (.cells #[.string ch,.int .i64 sr,.int .i64 tm,.slice A n c] 59)).alloc (.cells #[.string mn,.slice A' n' c',.slice Af nf cf,.slice As ns cs,.slice Ap np cp] 96)) (w.heap.size+1) 96 #[.string mn,.slice A' n' c',.slice Af nf cf,.slice As ns cs,.slice Ap np cp] from by
  have:=Blk.new (w.alloc (.cells #[.string ch,.int .i64 sr,.int .i64 tm,.slice A n c] 59)) 96 #[.string mn,.slice A' n' c',.slice Af nf cf,.slice As ns cs,.slice Ap np cp]
  rwa [World.size_alloc] at this)
 have hx0:Ext w ((w.alloc (.cells #[.string ch,.int .i64 sr,.int .i64 tm,.slice A n c] 59)).alloc (.cells #[.string mn,.slice A' n' c',.slice Af nf cf,.slice As ns cs,.slice Ap np cp] 96)):=((Ext.refl w).alloc _).alloc _
 go_enter Tryz.func9,Tryz.ntmps9
 go_upto_region 1 with fail
 go_cut [2,3,4,5,6,11] (fun s2 s3 s4 s5 s6 s11 wx=>s2=.string nm∧s3=.int .i64 t∧s4=.int .i64 te∧s5=.pointer (some ⟨w.heap.size,0,none⟩)∧s6=.pointer (some ⟨w.heap.size+1,0,none⟩)∧s11=.int .i64 ME∧Hid (Blk wx w.heap.size 59 #[.string ch,.int .i64 sr,.int .i64 tm,.slice A n c])∧Hid (Blk wx (w.heap.size+1) 96 #[.string mn,.slice A' n' c',.slice Af nf cf,.slice As ns cs,.slice Ap np cp])∧Ext w wx)
 case first=>as_aux_lemma =>
  have eM:=BM.out.cell;have lM:=BM.out.lt
  go_wp2_with fail
  refine (CME.out _ hx0).mono ?_
  rintro e w1 ⟨rfl,hx1⟩
  have BF1:=Hy (BF.out.ext hx1);have BM1:=Hy (BM.out.ext hx1)
  have hxa:=hx0.trans hx1
  clear eM lM BF BM
  go_wp2_with fail
  refine (CTE.out _).mono ?_
  rintro e w2 ⟨rfl,rfl⟩
  go_wp2_with fail
  refine (first2_anyO M1 T1 _ _ _ rfl).mono ?_
  rintro e w3 ⟨rfl,hx3⟩
  have BF2:=Hy (BF1.out.ext hx3);have BM2:=Hy (BM1.out.ext hx3)
  have hxb:=hxa.trans hx3
  rw[HMT.out]
  go_wp2_with fail
  go_meet
  case rel=>exact⟨rfl,rfl,rfl,rfl,rfl,rfl,BF2,BM2,hxb⟩
 case rest =>
 clear BF BM hx0
 obtain⟨rfl,rfl,rfl,rfl,rfl,rfl,BF,BM,hx0⟩:=hcut
 obtain⟨W0,rfl⟩:∃ W0:World,W0=wc:=⟨_,rfl⟩
 have eF:=BF.out.cell;have lF:=BF.out.lt
 go_wp2_with fail
 clear eF lF
 go_loopw [34] (fun i wr=>∃ k:Nat,k<=n∧i=.int .i64 k∧Hid (Blk wr w.heap.size 59 #[.string ch,.int .i64 sr,.int .i64 tm,.slice A n c])∧Hid (Blk wr (w.heap.size+1) 96 #[.string mn,.slice A' n' c',.slice Af nf cf,.slice As ns cs,.slice Ap np cp])∧Ext w wr) (fun i _=>n - (intOf i).toNat)
 case atStart=>exact⟨0,Nat.zero_le _,rfl,BF,BM,hx0⟩
 case round =>
  clear BF BM hx0
  obtain⟨k,hk,rfl,BF,BM,hxr⟩:=hrel
  obtain⟨wo,rfl⟩:∃ wo:World,wo=wr:=⟨_,rfl⟩
  by_cases hlt:k < n
  ·as_aux_lemma =>
   have hk1:k < l.length:=by rw[HN.out];exact hlt
   obtain⟨b,i0,rfl,hX⟩:=HR.out (fun e=>by rw[e] at hk1;exact absurd hk1 (Nat.not_lt_zero _))
   obtain⟨A1,c1,kk,nn,xx,A2,m2,c2,hrow⟩:=hX k hk1
   have hmem:=List.getElem_mem hk1
   have LD:=load_row (hrow.ext hxr)
   have lx:=lt_of_cell (hrow.ext hxr).r0
   have HIN:=Hy hrow.has
   have CFI:=Hy (fun W (h:Ext w W)=>CFI.out l[k] hmem A1 c1 kk nn xx A2 m2 c2 W h (HIN.out.ext h))
   have COE:=Hy (fun W (h:Ext w W)=>COE.out l[k] hmem A1 c1 kk nn xx A2 m2 c2 W h (HIN.out.ext h))
   have CFO:=Hy (fun (he:fE (l[k]'hk1)=0) W (h:Ext w W)=>CFO.out l[k] hmem he A1 c1 kk nn xx A2 m2 c2 W h (HIN.out.ext h))
   have HFE:=Hy (HFE.out l[k]);have HFR:=Hy (HFR.out l[k]);have HFR2:=Hy (HFR2.out l[k])
   clear hX hrow hmem HIN COD CFW CFE CNO CWH CDO CFF HSO HFSM HE0 HMT HFO0 HFO1 CME CTE HR HN
   generalize fE l[k]=EO at *
   generalize fR l[k]=RO at *
   generalize fM l[k]=MO at *
   generalize ofErr l[k]=OE at *
   generalize l[k]=o at *
   obtain⟨on,⟨o1,o2,o3,oa⟩,os,of_,ow,od,ob,ot,og,oh,ou,ok⟩:=o
   dsimp only[ofV] at *
   generalize of_.length=ol at *
   have b1:=Blk.new wo 66 #[.string on,.int .i64 o1,.int .i64 o2,.int .i64 o3,.string oa,.string os,.slice A1 ol c1,.bool ow,.int .i64 kk,.string nn,.string xx,.slice A2 m2 c2,.int .i64 ob,.int .i64 ot,.int .i64 og,.bool oh,.bool ou,.bool ok]
   have hxa:=(Ext.refl wo).alloc (.cells #[.string on,.int .i64 o1,.int .i64 o2,.int .i64 o3,.string oa,.string os,.slice A1 ol c1,.bool ow,.int .i64 kk,.string nn,.string xx,.slice A2 m2 c2,.int .i64 ob,.int .i64 ot,.int .i64 og,.bool oh,.bool ou,.bool ok] 66)
   have bM:=BM.out.ext hxa
   have LB:=load_blk b1 rfl
   have l1:=b1.lt
   have eM:=bM.cell;have lM:=bM.lt
   have LSF:(storeVar 66 ⟨wo.heap.size,0,none⟩ (.agg #[.string on,.int .i64 o1,.int .i64 o2,.int .i64 o3,.string oa,.string os,.slice A1 ol c1,.bool ow,.int .i64 kk,.string nn,.string xx,.slice A2 m2 c2,.int .i64 ob,.int .i64 ot,.int .i64 og,.bool oh,.bool ou,.bool ok])).run Tryz.prog (wo.alloc (.cells #[.string ⟨#[]⟩,.int .i64 0,.int .i64 0,.int .i64 0,.string ⟨#[]⟩,.string ⟨#[]⟩,.slice none 0 0,.bool false,.int .i64 0,.string ⟨#[]⟩,.string ⟨#[]⟩,.slice none 0 0,.int .i64 0,.int .i64 0,.int .i64 0,.bool false,.bool false,.bool false] 66))=.ok () (wo.alloc (.cells #[.string on,.int .i64 o1,.int .i64 o2,.int .i64 o3,.string oa,.string os,.slice A1 ol c1,.bool ow,.int .i64 kk,.string nn,.string xx,.slice A2 m2 c2,.int .i64 ob,.int .i64 ot,.int .i64 og,.bool oh,.bool ou,.bool ok] 66)):=store_fresh wo
   go_wp2_with (first|(with_reducible show wpList _ _ _ ({ op:=Op.store _ _ _,.. }::_) _ _;refine wpList_store_at rfl _ _ _ rfl _ rfl _ rfl _ LSF ?_)|(with_reducible show wpList _ _ _ ({ op:=Op.load _ _,.. }::_) _ _;refine wpList_load_at rfl _ _ rfl _ rfl _ LD ?_)|(with_reducible show wpList _ _ _ ({ op:=Op.load _ _,.. }::_) _ _;refine wpList_load_at rfl _ _ rfl _ rfl _ LB ?_))
   refine (CFI.out _ (hxr.trans hxa)).mono ?_
   rintro e w1 ⟨rfl,hx1⟩
   have b2:=b1.ext hx1;have BF1:=Hy (BF.out.ext (hxa.trans hx1));have BM1:=Hy (BM.out.ext (hxa.trans hx1))
   have hxb:=(hxr.trans hxa).trans hx1
   have LB2:=load_blk b2 rfl
   have l2:=b2.lt
   clear LB l1 eM lM b1 bM BF BM lx LD hxa hx1
   go_wp2_with (first|(with_reducible show wpList _ _ _ ({ op:=Op.load _ _,.. }::_) _ _;refine wpList_load_at rfl _ _ rfl _ rfl _ LB2 ?_))
   refine (COE.out _ hxb).mono ?_
   rintro e w2 ⟨rfl,hx2⟩
   have b3:=b2.ext hx2;have BF2:=Hy (BF1.out.ext hx2);have BM2:=Hy (BM1.out.ext hx2)
   have hxc:=hxb.trans hx2
   clear LB2 l2 b2 BF1 BM1
   go_wp2_with fail
   refine (first2_anyO OE ME _ _ _ rfl).mono ?_
   rw[<-HFE.out]
   rintro e w3 ⟨rfl,hx3⟩
   have b4:=b3.ext hx3;have BF3:=Hy (BF2.out.ext hx3);have BM3:=Hy (BM2.out.ext hx3)
   have hxd:=hxc.trans hx3
   clear b3 BF2 BM2
   go_wp2_with fail
   refine (CFS.out _ hxd).mono ?_
   rintro e w4 ⟨rfl,hx4⟩
   have b5:=b4.ext hx4;have BF4:=Hy (BF3.out.ext hx4);have BM4:=Hy (BM3.out.ext hx4)
   have hxe:=hxd.trans hx4
   have LB5:=load_blk b5 rfl
   have l5:=b5.lt
   have eM:=BM4.out.cell;have lM:=BM4.out.lt
   clear b4 BF3 BM3
   by_cases hz:EO=0
   ·as_aux_lemma =>
    obtain rfl:RO=MO:=HFR.out hz
    obtain rfl:EO=0:=hz
    have cf:=CFO.out rfl
    go_wp2_with (first|(with_reducible show wpList _ _ _ ({ op:=Op.load _ _,.. }::_) _ _;refine wpList_load_g rfl _ _ rfl _ rfl _ LB5 ?_))
    refine (cf _ hxe).mono ?_
    rintro e w5 ⟨rfl,hx5⟩
    have BF5:=Hy (BF4.out.ext hx5);have BM5:=Hy (BM4.out.ext hx5)
    have hxf:=hxe.trans hx5
    go_wp2
    go_roundw
    case rel=>exact⟨k+1,hlt,by go_num,BF5,BM5,hxf⟩
    case measure=>simp[intOf];omega
   ·as_aux_lemma =>
    obtain rfl:RO=0:=HFR2.out hz
    have hne:(EO==0)=false:=by rw[beq_eq_false_iff_ne];exact hz
    have hne2:(EO != 0)=true:=by rw[bne_iff_ne];exact hz
    clear hz
    go_wp2_with fail
    go_roundw
    case rel=>exact⟨k+1,hlt,by go_num,BF4,BM4,hxe⟩
    case measure=>simp[intOf];omega
  ·obtain rfl:k=n:=by omega
   clear CFI COE CFO HFE HFR HFR2 CME CTE HMT HR
   by_cases hz:E0=0
   rotate_left
   ·as_aux_lemma =>
    have eF:=BF.out.cell;have lF:=BF.out.lt;have eM:=BM.out.cell;have lM:=BM.out.lt
    have HOZ:ofdO E0 l R0=zeroO:=if_neg hz
    have HYZ:ofdY E0 R0=0:=if_neg hz
    have HFZ:folE E0 t te=E0:=if_pos hz
    have HFZ2:=HFO1.out E0 hz
    rw[HOZ,HYZ] at COD
    rw[HFZ,HFZ2] at CFW
    have hne:(E0==0)=false:=by rw[beq_eq_false_iff_ne];exact hz
    have hne2:(E0 != 0)=true:=by rw[bne_iff_ne];exact hz
    clear HOZ HYZ HFZ HFZ2 hz CDO CFF HSO HFSM HFO0 HFO1
    go_wp2_with fail
    refine (COD.out _ hxr).mono ?_
    rintro e w1 ⟨A1,c1,kk,nn,xx,A2,m2,c2,rfl,hOI,hx1⟩
    have HOI:=Hy hOI
    clear hOI
    have CSO:=Hy (fun W (h:Ext w1 W)=>SameOffer_refl zeroO A1 c1 kk nn xx A2 m2 c2 none 0 0 ⟨#[]⟩ ⟨#[]⟩ none 0 0 W (HOI.out.ext h) (OfIn_zero W) small_zeroO)
    dsimp only[ofV,zeroO,List.length_nil] at CSO ⊢
    have hx1':=hx1.alloc (.cells #[.string ⟨#[]⟩,.int .i64 0,.int .i64 0,.int .i64 0,.string ⟨#[]⟩,.string ⟨#[]⟩,.slice A1 0 c1,.bool false,.int .i64 kk,.string nn,.string xx,.slice A2 m2 c2,.int .i64 0,.int .i64 0,.int .i64 0,.bool false,.bool false,.bool false] 66)
    have LSF:(storeVar 66 ⟨w1.heap.size,0,none⟩ (.agg #[.string ⟨#[]⟩,.int .i64 0,.int .i64 0,.int .i64 0,.string ⟨#[]⟩,.string ⟨#[]⟩,.slice A1 0 c1,.bool false,.int .i64 kk,.string nn,.string xx,.slice A2 m2 c2,.int .i64 0,.int .i64 0,.int .i64 0,.bool false,.bool false,.bool false])).run Tryz.prog (w1.alloc (.cells #[.string ⟨#[]⟩,.int .i64 0,.int .i64 0,.int .i64 0,.string ⟨#[]⟩,.string ⟨#[]⟩,.slice none 0 0,.bool false,.int .i64 0,.string ⟨#[]⟩,.string ⟨#[]⟩,.slice none 0 0,.int .i64 0,.int .i64 0,.int .i64 0,.bool false,.bool false,.bool false] 66))=.ok () (w1.alloc (.cells #[.string ⟨#[]⟩,.int .i64 0,.int .i64 0,.int .i64 0,.string ⟨#[]⟩,.string ⟨#[]⟩,.slice A1 0 c1,.bool false,.int .i64 kk,.string nn,.string xx,.slice A2 m2 c2,.int .i64 0,.int .i64 0,.int .i64 0,.bool false,.bool false,.bool false] 66)):=store_fresh w1
    have BF1:=Hy (BF.out.ext hx1');have BM1:=Hy (BM.out.ext hx1')
    have hxa:=hxr.trans hx1'
    have bO:=Blk.new w1 66 #[.string ⟨#[]⟩,.int .i64 0,.int .i64 0,.int .i64 0,.string ⟨#[]⟩,.string ⟨#[]⟩,.slice A1 0 c1,.bool false,.int .i64 kk,.string nn,.string xx,.slice A2 m2 c2,.int .i64 0,.int .i64 0,.int .i64 0,.bool false,.bool false,.bool false]
    have hxO:Ext w1 (w1.alloc (.cells #[.string ⟨#[]⟩,.int .i64 0,.int .i64 0,.int .i64 0,.string ⟨#[]⟩,.string ⟨#[]⟩,.slice A1 0 c1,.bool false,.int .i64 kk,.string nn,.string xx,.slice A2 m2 c2,.int .i64 0,.int .i64 0,.int .i64 0,.bool false,.bool false,.bool false] 66)):=(Ext.refl w1).alloc _
    clear eF lF eM lM BF BM
    have eF:=BF1.out.cell;have lF:=BF1.out.lt;have eM:=BM1.out.cell;have lM:=BM1.out.lt
    go_wp2_with (first|(with_reducible show wpList _ _ _ ({ op:=Op.store _ _ _,.. }::_) _ _;refine wpList_store_at rfl _ _ _ rfl _ rfl _ rfl _ LSF ?_))
    clear LSF
    refine (CFW.out _ hxa).mono ?_
    rintro e w2 ⟨A5,c5,rfl,_,hx2⟩
    have BF2:=Hy (BF1.out.ext hx2)
    have hxb:=hxa.trans hx2
    have hxO2:=hxO.trans hx2
    have bO2:=bO.ext hx2
    clear eF lF eM lM BF1 BM1 bO hxO
    have eF:=BF2.out.cell;have lF:=BF2.out.lt
    go_wp2_with fail
    refine (CFE.out _ hxb).mono ?_
    rintro e w3 ⟨rfl,hx3⟩
    have hxc:=hxb.trans hx3
    have hxO3:=hxO2.trans hx3
    have bO3:=bO2.ext hx3
    clear eF lF BF2 bO2 hxO2
    go_wp2_with fail
    refine (CNO.out _).mono ?_
    rintro e w4 ⟨rfl,hx4⟩
    have hxd:=hxc.trans hx4
    have hxO4:=hxO3.trans hx4
    have bO4:=bO3.ext hx4
    clear bO3 hxO3
    go_wp2_with fail
    refine (CWH.out _).mono ?_
    rintro e w5 ⟨rfl,rfl⟩
    go_wp2_with fail
    refine (first3_anyO FE ME NE _ _ _ rfl).mono ?_
    rw[HE0.out]
    rintro e w6 ⟨rfl,hx6⟩
    have hxe:=hxd.trans hx6
    have hxO6:=hxO4.trans hx6
    have bO6:=bO4.ext hx6
    clear bO4 hxO4
    go_wp2_with fail
    refine (CFS.out _ hxe).mono ?_
    rintro e w7 ⟨rfl,hx7⟩
    have hxf:=hxe.trans hx7
    have hxO7:=hxO6.trans hx7
    have bO7:=bO6.ext hx7
    have LB:=load_blk bO7 rfl
    have l7:=bO7.lt
    clear bO6 hxO6
    go_wp2_with (first|(with_reducible show wpList _ _ _ ({ op:=Op.load _ _,.. }::_) _ _;refine wpList_load_g rfl _ _ rfl _ rfl _ LB ?_))
    refine (CSO.out _ hxO7).mono ?_
    rintro e w8 ⟨rfl,hx8⟩
    clear LB
    go_wp2
    go_ret
    exact⟨rfl,hxf.trans hx8⟩
   obtain rfl:E0=0:=hz
   have HOZ:ofdO 0 l R0=offO l R0:=if_pos rfl
   have HYZ:ofdY 0 R0=R0.2:=if_pos rfl
   rw[HOZ,HYZ] at COD
   obtain⟨ht0,ht1⟩:=HTB.out rfl
   replace CDO:=Hy (CDO.out rfl)
   replace CFF:=Hy (CFF.out rfl)
   clear HOZ HYZ
   obtain⟨RI,RY⟩:=R0
   dsimp only at COD CDO
   generalize offO l (RI,RY)=o at *
   obtain⟨on,⟨o1,o2,o3,oa⟩,os,of_,ow,od,ob,ot,og,oh,ou,ok⟩:=o
   dsimp only[ofV] at COD CDO
   generalize hol:of_.length=ol at *
   have HOL:=Hy hol
   clear hol
   have HE:=Hy (show ∀ h:te < t∨1099511627776 < te∨3600000 < te - t,folE 0 t te=3∧fo (folE 0 t te)=[] from fun h=>by
    have:folE 0 t te=3:=by unfold folE;rw[if_neg (fun h=>h rfl),if_pos h]
    rw[this];exact⟨rfl,HFO1.out 3 (by decide)⟩)
   have HEN:=Hy (show ∀ h:¬ (te < t∨1099511627776 < te∨3600000 < te - t),folE 0 t te=0∧fo (folE 0 t te)=FL from fun h=>by
    have:folE 0 t te=0:=by unfold folE;rw[if_neg (fun h=>h rfl),if_neg h]
    rw[this];exact⟨rfl,HFO0.out⟩)
   obtain⟨EF,hEF⟩:∃ EF,folE 0 t te=EF:=⟨_,rfl⟩
   obtain⟨LF,hLF⟩:∃ LF,fo EF=LF:=⟨_,rfl⟩
   rw[hEF] at HE HEN CFW
   rw[hLF] at HE HEN CFW
   clear hEF hLF HFO0 HFO1
   have eF:=BF.out.cell;have lF:=BF.out.lt;have eM:=BM.out.cell;have lM:=BM.out.lt
   go_wp2_with fail
   refine (COD.out _ hxr).mono ?_
   rintro e w1 ⟨A1,c1,kk,nn,xx,A2,m2,c2,rfl,hOI,hx1⟩
   have HOI:=Hy hOI
   clear hOI
   have hx1':=hx1.alloc (.cells #[.string on,.int .i64 o1,.int .i64 o2,.int .i64 o3,.string oa,.string os,.slice A1 ol c1,.bool ow,.int .i64 kk,.string nn,.string xx,.slice A2 m2 c2,.int .i64 ob,.int .i64 ot,.int .i64 og,.bool oh,.bool ou,.bool ok] 66)
   have BF1:=Hy (BF.out.ext hx1');have BM1:=Hy (BM.out.ext hx1')
   have hxa:=hxr.trans hx1'
   have bO:=Blk.new w1 66 #[.string on,.int .i64 o1,.int .i64 o2,.int .i64 o3,.string oa,.string os,.slice A1 ol c1,.bool ow,.int .i64 kk,.string nn,.string xx,.slice A2 m2 c2,.int .i64 ob,.int .i64 ot,.int .i64 og,.bool oh,.bool ou,.bool ok]
   have hxO:Ext w1 (w1.alloc (.cells #[.string on,.int .i64 o1,.int .i64 o2,.int .i64 o3,.string oa,.string os,.slice A1 ol c1,.bool ow,.int .i64 kk,.string nn,.string xx,.slice A2 m2 c2,.int .i64 ob,.int .i64 ot,.int .i64 og,.bool oh,.bool ou,.bool ok] 66)):=(Ext.refl w1).alloc _
   clear eF lF eM lM BF BM
   have eF:=BF1.out.cell;have lF:=BF1.out.lt;have eM:=BM1.out.cell;have lM:=BM1.out.lt
   have LSF:(storeVar 66 ⟨w1.heap.size,0,none⟩ (.agg #[.string on,.int .i64 o1,.int .i64 o2,.int .i64 o3,.string oa,.string os,.slice A1 ol c1,.bool ow,.int .i64 kk,.string nn,.string xx,.slice A2 m2 c2,.int .i64 ob,.int .i64 ot,.int .i64 og,.bool oh,.bool ou,.bool ok])).run Tryz.prog (w1.alloc (.cells #[.string ⟨#[]⟩,.int .i64 0,.int .i64 0,.int .i64 0,.string ⟨#[]⟩,.string ⟨#[]⟩,.slice none 0 0,.bool false,.int .i64 0,.string ⟨#[]⟩,.string ⟨#[]⟩,.slice none 0 0,.int .i64 0,.int .i64 0,.int .i64 0,.bool false,.bool false,.bool false] 66))=.ok () (w1.alloc (.cells #[.string on,.int .i64 o1,.int .i64 o2,.int .i64 o3,.string oa,.string os,.slice A1 ol c1,.bool ow,.int .i64 kk,.string nn,.string xx,.slice A2 m2 c2,.int .i64 ob,.int .i64 ot,.int .i64 og,.bool oh,.bool ou,.bool ok] 66)):=store_fresh w1
   go_wp2_with (first|(with_reducible show wpList _ _ _ ({ op:=Op.store _ _ _,.. }::_) _ _;refine wpList_store_at rfl _ _ _ rfl _ rfl _ rfl _ LSF ?_))
   clear LSF
   refine (CFW.out _ hxa).mono ?_
   rintro e w2 ⟨A5,c5,rfl,hRD,hx2⟩
   have HRD:=Hy hRD
   have BF2:=Hy (BF1.out.ext hx2);have BM2:=Hy (BM1.out.ext hx2)
   have hxb:=hxa.trans hx2
   have hxO2:=hxO.trans hx2
   have bO2:=Hy (bO.ext hx2)
   clear eF lF eM lM BF1 BM1 bO hxO hRD
   go_upto_region 12 with fail
   go_cut [2,3,4,5,6,17,18,19,20,21,22] (fun s2 s3 s4 s5 s6 s17 s18 s19 s20 s21 s22 wx=>s2=.string nm∧s3=.int .i64 t∧s4=.int .i64 te∧s5=.pointer (some ⟨w.heap.size,0,none⟩)∧s6=.pointer (some ⟨w.heap.size+1,0,none⟩)∧s17=.pointer (some ⟨w1.heap.size,0,none⟩)∧s18=.int .i64 RY∧s19=.int .i64 0∧s20=.slice A5 LF.length c5∧s21=.int .i64 EF∧s22=.int .i64 0∧Ext w2 wx)
   case first=>as_aux_lemma =>
    have eF:=BF2.out.cell;have lF:=BF2.out.lt
    go_wp2_with fail
    refine (CFE.out _ hxb).mono ?_
    rintro e w3 ⟨rfl,hx3⟩
    clear eF lF
    go_wp2_with fail
    refine (CNO.out _).mono ?_
    rintro e w4 ⟨rfl,hx4⟩
    go_wp2_with fail
    refine (CWH.out _).mono ?_
    rintro e w5 ⟨rfl,rfl⟩
    go_wp2_with fail
    refine (first3_anyO FE ME NE _ _ _ rfl).mono ?_
    rw[HE0.out]
    rintro e w6 ⟨rfl,hx6⟩
    go_wp2_with fail
    go_meet
    case rel=>exact⟨rfl,rfl,rfl,rfl,rfl,rfl,rfl,rfl,rfl,rfl,rfl,(hx3.trans hx4).trans hx6⟩
   case rest =>
   obtain⟨rfl,rfl,rfl,rfl,rfl,rfl,rfl,rfl,rfl,rfl,rfl,hx3⟩:=hcut
   obtain⟨w3,rfl⟩:∃ w3:World,w3=wc:=⟨_,rfl⟩
   have BF3:=Hy (BF2.out.ext hx3);have BM3:=Hy (BM2.out.ext hx3)
   have hxc:=hxb.trans hx3
   have hxO3:=hxO2.trans hx3
   have bO3:=Hy (bO2.out.ext hx3)
   clear CFE CNO CWH HE0 BF2 BM2 bO2 hxO2 COD CFW
   have eF:=BF3.out.cell;have lF:=BF3.out.lt;have eM:=BM3.out.cell;have lM:=BM3.out.lt
   go_wp2_with fail
   refine (CDO.out _ hxc).mono ?_
   rintro e w4 ⟨⟨A3,c3,k3,n3,x3,A4,m4,c4,rfl,hPI⟩,hx4⟩
   have HPI:=Hy hPI
   clear hPI eF lF eM lM
   have hx4':=hx4.alloc (.cells #[.string on,.int .i64 o1,.int .i64 o2,.int .i64 o3,.string oa,.string os,.slice A3 ol c3,.bool ow,.int .i64 k3,.string n3,.string x3,.slice A4 m4 c4,.int .i64 ob,.int .i64 ot,.int .i64 og,.bool oh,.bool ou,.bool ok] 66)
   have BF4:=Hy (BF3.out.ext hx4');have BM4:=Hy (BM3.out.ext hx4')
   have hxd:=hxc.trans hx4'
   have hxO4:=hxO3.trans hx4'
   have bO4:=Hy (bO3.out.ext hx4')
   have bP4:=Hy (Blk.new w4 66 #[.string on,.int .i64 o1,.int .i64 o2,.int .i64 o3,.string oa,.string os,.slice A3 ol c3,.bool ow,.int .i64 k3,.string n3,.string x3,.slice A4 m4 c4,.int .i64 ob,.int .i64 ot,.int .i64 og,.bool oh,.bool ou,.bool ok])
   clear BF3 BM3 bO3 hxO3
   have LSF:(storeVar 66 ⟨w4.heap.size,0,none⟩ (.agg #[.string on,.int .i64 o1,.int .i64 o2,.int .i64 o3,.string oa,.string os,.slice A3 ol c3,.bool ow,.int .i64 k3,.string n3,.string x3,.slice A4 m4 c4,.int .i64 ob,.int .i64 ot,.int .i64 og,.bool oh,.bool ou,.bool ok])).run Tryz.prog (w4.alloc (.cells #[.string ⟨#[]⟩,.int .i64 0,.int .i64 0,.int .i64 0,.string ⟨#[]⟩,.string ⟨#[]⟩,.slice none 0 0,.bool false,.int .i64 0,.string ⟨#[]⟩,.string ⟨#[]⟩,.slice none 0 0,.int .i64 0,.int .i64 0,.int .i64 0,.bool false,.bool false,.bool false] 66))=.ok () (w4.alloc (.cells #[.string on,.int .i64 o1,.int .i64 o2,.int .i64 o3,.string oa,.string os,.slice A3 ol c3,.bool ow,.int .i64 k3,.string n3,.string x3,.slice A4 m4 c4,.int .i64 ob,.int .i64 ot,.int .i64 og,.bool oh,.bool ou,.bool ok] 66)):=store_fresh w4
   go_wp2_with (first|(with_reducible show wpList _ _ _ ({ op:=Op.store _ _ _,.. }::_) _ _;refine wpList_store_at rfl _ _ _ rfl _ rfl _ rfl _ LSF ?_))
   clear LSF
   refine (CFS.out _ hxd).mono ?_
   rintro e w5 ⟨rfl,hx5⟩
   have BF5:=Hy (BF4.out.ext hx5);have BM5:=Hy (BM4.out.ext hx5)
   have hxe:=hxd.trans hx5
   have hxO5:=hxO4.trans hx5
   have bO5:=bO4.out.ext hx5;have bP5:=bP4.out.ext hx5
   have LBO:=load_blk bO5 rfl;have LBP:=load_blk bP5 rfl
   have lO5:=bO5.lt;have lP5:=bP5.lt
   have CSO:=Hy (fun W (h:Ext w5 W)=>SameOffer_refl ⟨on,⟨o1,o2,o3,oa⟩,os,of_,ow,od,ob,ot,og,oh,ou,ok⟩ A1 c1 kk nn xx A2 m2 c2 A3 c3 k3 n3 x3 A4 m4 c4 W (HOI.out.ext (hxO5.trans h)) (HPI.out.ext (hxe.trans h)) HSO.out)
   dsimp only[ofV] at CSO
   rw[HOL.out] at CSO
   clear BF4 BM4 bO4 bP4 hxO4
   go_wp2_with (first|(with_reducible show wpList _ _ _ ({ op:=Op.load _ _,.. }::_) _ _;refine wpList_load_g rfl _ _ rfl _ rfl _ LBO ?_)|(with_reducible show wpList _ _ _ ({ op:=Op.load _ _,.. }::_) _ _;refine wpList_load_g rfl _ _ rfl _ rfl _ LBP ?_))
   refine (CSO.out _ (Ext.refl _)).mono ?_
   rintro e w6 ⟨rfl,hx6⟩
   have BF6:=Hy (BF5.out.ext hx6);have BM6:=Hy (BM5.out.ext hx6)
   have hxf:=hxe.trans hx6
   clear LBO LBP lO5 lP5 CSO bO5 bP5 BF5 BM5
   go_wp2_with fail
   refine (In_any te t 1099511627776 _).mono ?_
   rintro e w7 ⟨rfl,rfl⟩
   by_cases hin:t<=te∧te<=1099511627776
   rotate_left
   ·have hd:decide (t<=te∧te<=1099511627776)=false:=decide_eq_false hin
    obtain⟨rfl,rfl⟩:=HE.out (by omega)
    rw[hd]
    go_wp2
    go_ret
    exact⟨rfl,hxf⟩
   have hd:decide (t<=te∧te<=1099511627776)=true:=decide_eq_true hin
   rw[hd]
   obtain⟨hin1,hin2⟩:=hin
   by_cases hrg:3600000 < te - t
   ·as_aux_lemma =>
    obtain⟨rfl,rfl⟩:=HE.out (by omega)
    go_wp2
    go_ret
    exact⟨rfl,hxf⟩
   obtain⟨rfl,rfl⟩:=HEN.out (by omega)
   by_cases hrg2:360000 < te - t
   ·as_aux_lemma =>
    go_wp2
    go_ret
    exact⟨rfl,hxf⟩
   have eF:=BF6.out.cell;have lF:=BF6.out.lt;have eM:=BM6.out.cell;have lM:=BM6.out.lt
   go_wp2_with fail
   refine (CFF.out hin1 hin2 (by omega) _ hxf).mono ?_
   rintro e w8 ⟨A6,c6,rfl,hRD2,hx8⟩
   have CEQ:=Hy (EqualO_any LF A5 A6 LF.length c5 c6 w8 rfl (HRD.out.ext ((hx3.trans hx4').trans ((hx5.trans hx6).trans hx8))) hRD2 HFSM.out.1 (by have:=HFSM.out.2;unfold folK at this;omega))
   clear eF lF eM lM
   go_wp2_with fail
   refine CEQ.out.mono ?_
   rintro e w9 ⟨rfl,hx9⟩
   go_wp2
   go_ret
   exact⟨rfl,(hxf.trans hx8).trans hx9⟩
end Go.Proofs.YtmnafaaijglnfaaGreatDoor
