/- Contract of feed.Follow. (Printed by gen/omo.py.) -/
import Derived.Test.YtmnafaaijglnfaaGreatDoorOm44
namespace Go.Proofs.YtmnafaaijglnfaaGreatDoor
open Go.RowKit
theorem own_slice {w:World} {B:Nat} {e:TypeId} {size:Nat} {v:Value} {n:Nat} {xs:List Value} (h:w.ownsRow B e size v n xs):∃ A c,v=.slice A n c:=by
 rcases h.2 with ⟨rfl,rfl⟩|⟨g,cap,cur,rfl,_⟩
 ·exact⟨none,0,rfl⟩
 ·exact⟨_,cap,rfl⟩
theorem own_lower {w:World} {B B':Nat} {e:TypeId} {size:Nat} {v:Value} {n:Nat} {xs:List Value} (h:w.ownsRow B' e size v n xs) (hB:B<=B'):w.ownsRow B e size v n xs:=by
 refine⟨h.1,?_⟩
 rcases h.2 with h2|⟨g,cap,cur,rfl,h3,h4⟩
 ·exact .inl h2
 ·exact .inr ⟨g,cap,cur,rfl,by omega,h4⟩
def folE (e t te:Int):Int:=if e≠0 then e else if te < t∨1099511627776 < te∨3600000 < te - t then 3 else 0
def folO (l:List Of) (m:Mac) (nm:ByteArray) (t te e:Int):List Of:=if e=0 then folL l m nm t te else []
structure InsOk (I:List Ins) (k:Nat):Prop where
 small:SmallI I
 ok:∀ x∈I,x.vv.err=0
 asc:AscI I
 len:I.length<=k
theorem of_parts {o:Of} (hs:SmallO o) (he:ofErr o=0):o.vv.err=0∧o.vv.a.size<=2097152:=⟨(ofErr_parts he).2.1,hs.vv⟩
theorem mat_parts {a b q:Int} (h:firstI [a,b,q]=0):a=0∧b=0:=by
 have hh:=firstI_allO h
 exact⟨hh a (by simp),hh b (by simp)⟩
set_option maxHeartbeats 16000000 in
set_option maxRecDepth 100000 in
theorem Follow_any (ch:ByteArray) (sr tm:Int) (l:List Of) (A:Option Addr) (n c:Nat) (mc:Mac) (A':Option Addr) (n' c':Nat) (Af:Option Addr) (nf cf:Nat) (As:Option Addr) (ns cs:Nat) (Ap:Option Addr) (np cp:Nat) (nm:ByteArray) (t te:Int) (w:World) (hg:GoodN w) (hn:l.length=n) (hr:RdO w A l) (hs:∀ o∈l,SmallO o) (hch:ch.size<=2097152) (hl:n<=2097152) (hm:MacIn w mc A' n' Af nf As ns Ap np cp) (hsm:SmallM mc) (hli:n'<=2000000) (hnm:nm.size<=2097152) :
 Calls Tryz.prog 65 #[.agg #[.string ch,.int .i64 sr,.int .i64 tm,.slice A n c],macV mc A' n' c' Af nf cf As ns cs Ap np cp,.string nm,.int .i64 t,.int .i64 te] w fun e w'=>∃ A' c',e=.returned (.tuple #[.slice A' (folO l mc nm t te (folE (ofdE ch sr tm l mc nm t) t te)).length c',.int .i64 (folE (ofdE ch sr tm l mc nm t) t te)])∧RdO w' A' (folO l mc nm t te (folE (ofdE ch sr tm l mc nm t) t te))∧Ext w w':=by
 have COF:=Hy (fun W (h:Ext w W)=>Offered_any ch sr tm l A n c mc A' n' c' Af nf cf As ns cs Ap np cp nm t W (hg.ext h) hn (hr.ext h) hs hch hl (hm.ext h) hsm hnm)
 have COD:=Hy (fun (h0:ofdE ch sr tm l mc nm t=0) (I:List Ins) (Ai:Option Addr) (ni ci:Nat) (t':Int) W (h:Ext w W) (h1:I.length=ni) (h2:RdIns W Ai I) (h3:InsOk I 2097152) (h4:0<=t') (h5:t'<=1099511627776) =>
  show Calls Tryz.prog 139 #[.agg #[.string ch,.int .i64 sr,.int .i64 tm,.slice A n c],macV ⟨mc.name,I,mc.facts,mc.sets,mc.pins⟩ Ai ni ci Af nf cf As ns cs Ap np cp,.string nm,.int .i64 t'] W fun e w'=>e=.returned (.tuple #[.int .i64 (folR l mc nm t' (wasL I nm.toList)).1,.int .i64 (folR l mc nm t' (wasL I nm.toList)).2])∧Ext W w' from by
   obtain⟨q1,q2⟩:=mat_parts h0
   have ok:=MacOk.of (mat_zero q2).1
   rw[<-folR_of]
   exact offered_any ch sr tm l A n c ⟨mc.name,I,mc.facts,mc.sets,mc.pins⟩ Ai ni ci Af nf cf As ns cs Ap np cp nm t' W (hg.ext h) hn (hr.ext h) hs (fd_off (f:=⟨ch,sr,tm,l⟩) q1) hl
    ⟨h1,hm.ef,hm.es,hm.ep,h2,hm.rf.ext h,hm.rs.ext h,hm.rp.ext h,hm.cap⟩ ⟨hsm.name,h3.small,hsm.facts,hsm.sets,hsm.pins,h3.len,hsm.lf,hsm.ls,hsm.lp⟩
    ⟨ok.name,fun i hi=>h3.ok _ (List.getElem_mem hi),ok.facts,ok.sets,ok.pins⟩ h4 h5)
 have HROW:=Hy (fun (h0:ofdE ch sr tm l mc nm t=0)=>clone_at hr hs (fd_off (f:=⟨ch,sr,tm,l⟩) (mat_parts h0).1))
 have HOFS:=Hy (fun (h0:ofdE ch sr tm l mc nm t=0) i (hi:i < l.length)=>of_parts (hs _ (List.getElem_mem hi)) (fd_off (f:=⟨ch,sr,tm,l⟩) (mat_parts h0).1 _ (List.getElem_mem hi)))
 have CCL:=Hy (fun W (h:Ext w W)=>CloneIn_any mc.inst A' n' c' W hm.ei (hm.ri.ext h) (by omega))
 have HT:=Hy (fun (h0:ofdE ch sr tm l mc nm t=0)=>(mat_zero (mat_parts h0).2).2)
 have HI0:=Hy (show ofdE ch sr tm l mc nm t=0->InsOk mc.inst n' from fun h0=>by
  have h1:=mac_parts (mat_zero (mat_parts h0).2).1
  exact⟨hsm.inst,fun x hx=>by obtain⟨i,hi,rfl⟩:=List.mem_iff_getElem.1 hx;exact ins_ok h1.2.1 hi,asc_of h1.2.1,by rw[hm.ei];exact Nat.le_refl _⟩)
 have HNO:=Hy (fun k=>folS_no (l:=l) (m:=mc) (nm:=nm) (t0:=t) (k:=k))
 have HYES:=Hy (fun k i (hi:i < l.length)=>folS_yes (m:=mc) (nm:=nm) (t0:=t) (k:=k) hi)
 have HRC:=Hy (fun t' was=>show ((folR l mc nm t' was).1 < 0∧(folR l mc nm t' was).1=-1∧(folR l mc nm t' was).2≠0)∨(∃ i,∃ h:i < l.length,(folR l mc nm t' was).1=(i:Int)∧(folR l mc nm t' was).2=0) from offR_cases l _ _)
 have HLEN:=Hy (folS_len l mc nm t)
 have HS0:=Hy (show folS l mc nm t 0=(wasL mc.inst nm.toList,[]) from rfl)
 have HRES:=Hy (show folO l mc nm t te 0=(folS l mc nm t (folK t te)).2 from rfl)
 have HRNO:=Hy (show ∀ e,¬ e=0->folO l mc nm t te e=[] from fun e h=>if_neg h)
 have HN:=Hy hn
 have HEI:=Hy hm.ei
 have HNM:=Hy hnm
 clear hg hn hr hs hch hl hm hsm hnm
 generalize ofdE ch sr tm l mc nm t=E at *
 generalize folS l mc nm t=S at *
 generalize folR l mc nm=R at *
 generalize folO l mc nm t te=G at *
 generalize ofdR l mc nm t=R0 at *
 have HP1:=Hy (show ¬ E=0->folE E t te=E∧G (folE E t te)=[] from fun h=>by
  have e:folE E t te=E:=if_pos h
  rw[e];exact⟨rfl,HRNO.out E h⟩)
 have HP3:=Hy (show E=0->(te < t∨1099511627776 < te∨3600000 < te - t)->folE E t te=3∧G (folE E t te)=[] from fun h h2=>by
  have e:folE E t te=3:=by unfold folE;rw[if_neg (fun h3=>h3 h),if_pos h2]
  rw[e];exact⟨rfl,HRNO.out 3 (by decide)⟩)
 have HP0:=Hy (show E=0->¬ (te < t∨1099511627776 < te∨3600000 < te - t)->folE E t te=0∧G (folE E t te)=(S (folK t te)).2 from fun h h2=>by
  have e:folE E t te=0:=by unfold folE;rw[if_neg (fun h3=>h3 h),if_neg h2]
  rw[e];exact⟨rfl,HRES.out⟩)
 clear HRES HRNO
 generalize G (folE E t te)=GG at *
 generalize folE E t te=EE at *
 obtain⟨mn,mi,mf,ms,mp⟩:=mc
 dsimp only[macV] at *
 have bF:=(Blk.new w 59 #[.string ch,.int .i64 sr,.int .i64 tm,.slice A n c]).alloc (.cells #[.string mn,.slice A' n' c',.slice Af nf cf,.slice As ns cs,.slice Ap np cp] 96)
 have bM:=Blk.new (w.alloc (.cells #[.string ch,.int .i64 sr,.int .i64 tm,.slice A n c] 59)) 96 #[.string mn,.slice A' n' c',.slice Af nf cf,.slice As ns cs,.slice Ap np cp]
 rw[World.size_alloc] at bM
 have hx0:Ext w ((w.alloc (.cells #[.string ch,.int .i64 sr,.int .i64 tm,.slice A n c] 59)).alloc (.cells #[.string mn,.slice A' n' c',.slice Af nf cf,.slice As ns cs,.slice Ap np cp] 96)):=((Ext.refl w).alloc _).alloc _
 have eF:=bF.cell;have lF:=bF.lt;have eM:=bM.cell;have lM:=bM.lt
 go_enter Tryz.func65,Tryz.ntmps65
 go_wp2_with fail
 refine (COF.out _ hx0).mono ?_
 rintro e w1 ⟨A1,c1,kk,nn,xx,A2,m2,c2,rfl,hOI,hx1⟩
 have HF1:=Hy (bF.ext hx1);have HM1:=Hy (bM.ext hx1)
 have hxa:=hx0.trans hx1
 clear hOI eF lF eM lM bF bM hx1
 generalize ofdO E l R0=o at *
 generalize ofdY E R0=Y at *
 obtain⟨on,⟨o1,o2,o3,oa⟩,os,of_,ow,od,ob,ot,og,oh,ou,ok⟩:=o
 dsimp only[ofV] at *
 generalize of_.length=ol at *
 have LSF:(storeVar 66 ⟨w1.heap.size,0,none⟩ (.agg #[.string on,.int .i64 o1,.int .i64 o2,.int .i64 o3,.string oa,.string os,.slice A1 ol c1,.bool ow,.int .i64 kk,.string nn,.string xx,.slice A2 m2 c2,.int .i64 ob,.int .i64 ot,.int .i64 og,.bool oh,.bool ou,.bool ok])).run Tryz.prog (w1.alloc (.cells #[.string ⟨#[]⟩,.int .i64 0,.int .i64 0,.int .i64 0,.string ⟨#[]⟩,.string ⟨#[]⟩,.slice none 0 0,.bool false,.int .i64 0,.string ⟨#[]⟩,.string ⟨#[]⟩,.slice none 0 0,.int .i64 0,.int .i64 0,.int .i64 0,.bool false,.bool false,.bool false] 66))=.ok () (w1.alloc (.cells #[.string on,.int .i64 o1,.int .i64 o2,.int .i64 o3,.string oa,.string os,.slice A1 ol c1,.bool ow,.int .i64 kk,.string nn,.string xx,.slice A2 m2 c2,.int .i64 ob,.int .i64 ot,.int .i64 og,.bool oh,.bool ou,.bool ok] 66)):=store_fresh w1
 go_upto_region 2 with (first|(with_reducible show wpList _ _ _ ({ op:=Op.store _ _ _,.. }::_) _ _;refine wpList_store_at rfl _ _ _ rfl _ rfl _ rfl _ LSF ?_))
 clear LSF
 by_cases hE:E=0
 rotate_left
 ·as_aux_lemma =>
  have hne:(E==0)=false:=by rw[beq_eq_false_iff_ne];exact hE
  obtain⟨rfl,rfl⟩:=HP1.out hE
  clear hE
  go_wp2
  go_ret2
  exact⟨none,⟨0,rfl⟩,fun h=>absurd rfl h,hxa.alloc _⟩
 obtain rfl:E=0:=hE
 by_cases hlt:te < t
 ·as_aux_lemma =>
  obtain⟨rfl,rfl⟩:=HP3.out (by trivial) (.inl hlt)
  go_wp2
  go_ret2
  exact⟨none,⟨0,rfl⟩,fun h=>absurd rfl h,hxa.alloc _⟩
 by_cases hmx:1099511627776 < te
 ·as_aux_lemma =>
  obtain⟨rfl,rfl⟩:=HP3.out (by trivial) (.inr (.inl hmx))
  go_wp2
  go_ret2
  exact⟨none,⟨0,rfl⟩,fun h=>absurd rfl h,hxa.alloc _⟩
 obtain⟨ht0,ht1⟩:=HT.out (by trivial)
 by_cases hrg:3600000 < te - t
 ·as_aux_lemma =>
  obtain⟨rfl,rfl⟩:=HP3.out (by trivial) (.inr (.inr hrg))
  go_wp2
  go_ret2
  exact⟨none,⟨0,rfl⟩,fun h=>absurd rfl h,hxa.alloc _⟩
 obtain⟨rfl,rfl⟩:=HP0.out (by trivial) (by omega)
 obtain⟨WB,hWB⟩:∃ WB,WB=w1.alloc (.cells #[.string on,.int .i64 o1,.int .i64 o2,.int .i64 o3,.string oa,.string os,.slice A1 ol c1,.bool ow,.int .i64 kk,.string nn,.string xx,.slice A2 m2 c2,.int .i64 ob,.int .i64 ot,.int .i64 og,.bool oh,.bool ou,.bool ok] 66):=⟨_,rfl⟩
 have hxb:Ext w WB:=by rw[hWB];exact hxa.alloc _
 have hsz:w.heap.size+2<=WB.heap.size:=by
  have:=HM1.out.lt
  rw[hWB,World.size_alloc];omega
 have HF2:=Hy (show Blk WB w.heap.size 59 #[.string ch,.int .i64 sr,.int .i64 tm,.slice A n c] from by rw[hWB];exact HF1.out.alloc _)
 have HM2:=Hy (show Blk WB (w.heap.size+1) 96 #[.string mn,.slice A' n' c',.slice Af nf cf,.slice As ns cs,.slice Ap np cp] from by rw[hWB];exact HM1.out.alloc _)
 have HWB:=Hy hWB
 go_upto_region 6 with fail
 go_cut [2,3,4,5,6] (fun s2 s3 s4 s5 s6 wx=>s2=.string nm∧s3=.int .i64 t∧s4=.int .i64 te∧s5=.pointer (some ⟨w.heap.size,0,none⟩)∧s6=.pointer (some ⟨w.heap.size+1,0,none⟩)∧(∃ (Ai:Option Addr) (ci:Nat),Hid (FoS wx (w.heap.size+1) (w.heap.size+2) (fun g t cs=>g=w.heap.size∧t=59∧cs=#[.string ch,.int .i64 sr,.int .i64 tm,.slice A n c]) (.string mn) (.slice Af nf cf) (.slice As ns cs) (.slice Ap np cp) (.slice Ai n' ci) (.slice none 0 0) mi []))∧Ext w wx)
 case first=>as_aux_lemma =>
  have CL:=Hy (CCL.out WB hxb)
  have eM:=(HM1.out.alloc (.cells #[.string on,.int .i64 o1,.int .i64 o2,.int .i64 o3,.string oa,.string os,.slice A1 ol c1,.bool ow,.int .i64 kk,.string nn,.string xx,.slice A2 m2 c2,.int .i64 ob,.int .i64 ot,.int .i64 og,.bool oh,.bool ou,.bool ok] 66)).cell;have lM:=(HM1.out.alloc (.cells #[.string on,.int .i64 o1,.int .i64 o2,.int .i64 o3,.string oa,.string os,.slice A1 ol c1,.bool ow,.int .i64 kk,.string nn,.string xx,.slice A2 m2 c2,.int .i64 ob,.int .i64 ot,.int .i64 og,.bool oh,.bool ou,.bool ok] 66)).lt
  rw[hWB] at CL
  clear hWB
  go_wp2_with fail
  refine CL.out.mono ?_
  rintro e w2 ⟨v',rfl,xs,hown,hin,hx2⟩
  rw[<-HWB.out] at hown hx2
  obtain⟨Ai,ci,rfl⟩:=own_slice hown
  clear eM lM CL HF1 HM1
  have bM:=HM2.out.ext hx2
  have eM:=bM.cell;have lM:=bM.lt;have fM:=bM.free
  have HFS:FoS (w2.setCell ⟨w.heap.size+1,1,none⟩ (.slice Ai n' ci)) (w.heap.size+1) (w.heap.size+2) (fun g t cs=>g=w.heap.size∧t=59∧cs=#[.string ch,.int .i64 sr,.int .i64 tm,.slice A n c]) (.string mn) (.slice Af nf cf) (.slice As ns cs) (.slice Ap np cp) (.slice Ai n' ci) (.slice none 0 0) mi [] :=
   ⟨bM.set 1 _,⟨xs,by rw[HEI.out];exact ownsRow_setCell_below (own_lower hown hsz) (Nat.lt_succ_self _) _,hin⟩,⟨[],⟨rfl,.inl ⟨rfl,rfl⟩⟩,rfl⟩,fun k _ h=>(by cases h),fun g t cs hk=>by obtain⟨rfl,rfl,rfl⟩:=hk;exact (HF2.out.ext hx2).far (by show w.heap.size≠w.heap.size+1;omega) _,fun g t cs hk=>by obtain⟨rfl,_⟩:=hk;exact⟨by omega,by omega⟩,Nat.lt_succ_self _⟩
  have HFS0:=Hy HFS
  have hxc:Ext w (w2.setCell ⟨w.heap.size+1,1,none⟩ (.slice Ai n' ci)):=(hxb.trans hx2).setCell (Nat.le_succ _) _
  clear HFS bM hown hin HF2 HM2 hxb hx2 hxa hx0 hsz
  go_wp2_with fail
  go_meet
  case rel=>exact⟨rfl,rfl,rfl,rfl,rfl,⟨Ai,ci,HFS0⟩,hxc⟩
 case rest =>
 clear hWB HWB HF1 HM1 HF2 HM2 hxb hxa hx0 hsz
 obtain⟨rfl,rfl,rfl,rfl,rfl,⟨Ai,ci,HFS0⟩,hxc⟩:=hcut
 obtain⟨w2,rfl⟩:∃ w2:World,w2=wc:=⟨_,rfl⟩
 go_wp2_with fail
 go_loopw [15,16] (fun s15 s16 wr=>∃ (k:Nat) (I:List Ins) (Ai:Option Addr) (ci:Nat) (vo:Value),k<=folK t te∧vo=s15∧s16=.int .i64 (t+3600 * k)∧Hid (FoS wr (w.heap.size+1) (w.heap.size+2) (fun g t cs=>g=w.heap.size∧t=59∧cs=#[.string ch,.int .i64 sr,.int .i64 tm,.slice A n c]) (.string mn) (.slice Af nf cf) (.slice As ns cs) (.slice Ap np cp) (.slice Ai I.length ci) vo I (S k).2)∧Hid (wasL I nm.toList=(S k).1)∧Hid (InsOk I (n'+k))∧Ext w wr) (fun _ s16 _=>(te+1 - intOf s16).toNat)
 case atStart =>
  refine⟨0,mi,Ai,ci,.slice none 0 0,Nat.zero_le _,rfl,?_,?_,?_,HI0.out (by trivial),hxc⟩
  ·go_num
  ·rw[HS0.out,HEI.out];exact HFS0.out
  ·exact Hy (by rw[HS0.out])
 case round =>
  clear HFS0 hxc
  obtain⟨k,I,Ai,ci,vo,hk,rfl,rfl,HFS,HW,HIO,hxr⟩:=hrel
  obtain⟨wo,rfl⟩:∃ wo:World,wo=wr:=⟨_,rfl⟩
  have hKK:folK t te=((te - t) / 3600).toNat+1:=rfl
  by_cases htk:t+3600 * (k:Int)<=te
  rotate_left
  ·as_aux_lemma =>
   obtain rfl:k=folK t te:=by omega
   obtain⟨A5,c5,rfl,hrd⟩:=HFS.out.offers
   go_wp2
   go_ret2
   exact⟨A5,⟨c5,rfl⟩,hrd,hxr⟩
  have hk1:k+1<=folK t te:=by omega
  have hIl:I.length<=2097152:=by have:=HIO.out.len;omega
  obtain⟨A6,c6,he6,hrI,hgI⟩:=HFS.out.slice
  injection he6 with e1 e2 e3
  subst e1 e3
  clear e2
  have CO:=Hy (fun W (h:Ext wo W)=>COD.out (by trivial) I Ai I.length ci (t+3600 * k) W (hxr.trans h) rfl (hrI.ext h) ⟨HIO.out.small,HIO.out.ok,HIO.out.asc,hIl⟩ (by omega) (by omega))
  have HCASE:=Hy (HRC.out (t+3600 * k) (wasL I nm.toList))
  have HNK:=Hy (show (R (t+3600 * k) (wasL I nm.toList)).1 < 0->S (k+1)=S k from by rw[HW.out];exact HNO.out k)
  have HYK:=Hy (show ∀ i (hi:i < l.length),(R (t+3600 * k) (wasL I nm.toList)).1=i->S (k+1)=(some l[i].vv,(S k).2++[l[i]]) from fun i hi h=>HYES.out k i hi (by rw[<-HW.out];exact h))
  clear hrI
  generalize R (t+3600 * k) (wasL I nm.toList)=RV at *
  obtain⟨RI,RY⟩:=RV
  dsimp only at *
  obtain⟨IL,hIL⟩:∃ IL,IL=I.length:=⟨_,rfl⟩
  have HIL:=Hy hIL
  rw[<-hIL] at CO HFS hIl
  have bM:=HFS.out.blk
  have bF:=HFS.out.kp _ _ _ ⟨rfl,rfl,rfl⟩
  have eM:=bM.cell;have lM:=bM.lt;have eF:=bF.cell;have lF:=bF.lt
  clear bM bF hIL
  have hKt:t+3600 * (k:Int)<=1099511627776:=by omega
  have hK0:0<=t+3600 * (k:Int):=by omega
  go_wp2_with fail
  refine (CO.out _ (Ext.refl _)).mono ?_
  rintro e w1 ⟨rfl,hx1⟩
  have hxr1:=hxr.trans hx1
  have HFS1:=Hy (HFS.out.ext hx1)
  have hsz:=hxr.size
  clear eM lM eF lF CO HFS
  rcases HCASE.out with ⟨q1,q2,q3⟩|⟨i,hi,q2,q3⟩
  ·as_aux_lemma =>
   obtain rfl:RI=-1:=q2
   have HSS:=Hy (HNK.out (by decide))
   clear q1 q3
   go_wp2
   go_roundw
   case rel =>
    refine⟨k+1,I,Ai,ci,vo,hk1,rfl,by go_num,?_,?_,⟨HIO.out.small,HIO.out.ok,HIO.out.asc,by have:=HIO.out.len;omega⟩,hxr1⟩
    ·rw[HSS.out,<-HIL.out];exact HFS1.out
    ·exact Hy (by rw[HSS.out];exact HW.out)
   case measure=>simp[intOf];omega
  obtain rfl:RI=(i:Int):=q2
  obtain rfl:RY=0:=q3
  have HSS:=Hy (HYK.out i hi rfl)
  obtain⟨b,i0,rfl,A1,c1,kk,nn,xx,A2,m2,c2,hX⟩:=HROW.out (by trivial) i hi
  have HOV:=Hy (HOFS.out (by trivial) i hi)
  have hrow:=(hX w1 hxr1).1
  have LD:=load_row hrow
  have lx:=lt_of_cell hrow.r0
  have hin:i < n:=by rw[<-HN.out];exact hi
  have CLO:=Hy (fun W (h:Ext w W)=>(hX W h).2)
  have bF:=HFS1.out.kp _ _ _ ⟨rfl,rfl,rfl⟩
  have eF:=bF.cell;have lF:=bF.lt
  have HCAR:=Hy (show (wasL I nm.toList=(S k).1) from HW.out)
  clear hX hrow HROW HRC COF COD HCASE HNK HYK HNO HYES CCL HI0 HOFS bF HW
  generalize hol:l[i]=o at *
  obtain⟨on,⟨o1,o2,o3,oa⟩,os,of_,ow,od,ob,ot,og,oh,ou,ok⟩:=o
  dsimp only[ofV] at *
  have HOL:=Hy hol
  clear hol
  generalize hof:of_.length=ol at *
  have HOF:=Hy hof
  clear hof
  have bQ:=Blk.new w1 66 #[.string on,.int .i64 o1,.int .i64 o2,.int .i64 o3,.string oa,.string os,.slice A1 ol c1,.bool ow,.int .i64 kk,.string nn,.string xx,.slice A2 m2 c2,.int .i64 ob,.int .i64 ot,.int .i64 og,.bool oh,.bool ou,.bool ok]
  have lQ:=bQ.lt
  have hxq:Ext w1 (w1.alloc (.cells #[.string on,.int .i64 o1,.int .i64 o2,.int .i64 o3,.string oa,.string os,.slice A1 ol c1,.bool ow,.int .i64 kk,.string nn,.string xx,.slice A2 m2 c2,.int .i64 ob,.int .i64 ot,.int .i64 og,.bool oh,.bool ou,.bool ok] 66)):=(Ext.refl w1).alloc _
  have LB:=load_blk bQ rfl
  have LSF:(storeVar 66 ⟨w1.heap.size,0,none⟩ (.agg #[.string on,.int .i64 o1,.int .i64 o2,.int .i64 o3,.string oa,.string os,.slice A1 ol c1,.bool ow,.int .i64 kk,.string nn,.string xx,.slice A2 m2 c2,.int .i64 ob,.int .i64 ot,.int .i64 og,.bool oh,.bool ou,.bool ok])).run Tryz.prog (w1.alloc (.cells #[.string ⟨#[]⟩,.int .i64 0,.int .i64 0,.int .i64 0,.string ⟨#[]⟩,.string ⟨#[]⟩,.slice none 0 0,.bool false,.int .i64 0,.string ⟨#[]⟩,.string ⟨#[]⟩,.slice none 0 0,.int .i64 0,.int .i64 0,.int .i64 0,.bool false,.bool false,.bool false] 66))=.ok () (w1.alloc (.cells #[.string on,.int .i64 o1,.int .i64 o2,.int .i64 o3,.string oa,.string os,.slice A1 ol c1,.bool ow,.int .i64 kk,.string nn,.string xx,.slice A2 m2 c2,.int .i64 ob,.int .i64 ot,.int .i64 og,.bool oh,.bool ou,.bool ok] 66)):=store_fresh w1
  go_upto_region 14 with (first|(with_reducible show wpList _ _ _ ({ op:=Op.store _ _ _,.. }::_) _ _;refine wpList_store_at rfl _ _ _ rfl _ rfl _ rfl _ LSF ?_;dsimp only[Act.put])|(with_reducible show wpList _ _ _ ({ op:=Op.load _ _,.. }::_) _ _;refine wpList_load_at rfl _ _ rfl _ rfl _ LD ?_))
  clear LSF
  clear LD lx eF lF
  go_cut [15] from 52 to 101 (fun s15 wx=>∃ vo',vo'=s15∧Hid (FoS wx (w.heap.size+1) (w.heap.size+2) (fun g t cs=>g=w.heap.size∧t=59∧cs=#[.string ch,.int .i64 sr,.int .i64 tm,.slice (some ⟨b,i0,none⟩) n c]) (.string mn) (.slice Af nf cf) (.slice As ns cs) (.slice Ap np cp) (.slice Ai IL ci) vo' I (S (k+1)).2)∧Ext w wx∧Hid (Blk wx w1.heap.size 66 #[.string on,.int .i64 o1,.int .i64 o2,.int .i64 o3,.string oa,.string os,.slice A1 ol c1,.bool ow,.int .i64 kk,.string nn,.string xx,.slice A2 m2 c2,.int .i64 ob,.int .i64 ot,.int .i64 og,.bool oh,.bool ou,.bool ok]))
  case first =>
   go_wp2_with (first|(with_reducible show wpList _ _ _ ({ op:=Op.load _ _,.. }::_) _ _;refine wpList_load_at rfl _ _ rfl _ rfl _ LB ?_))
   refine (CLO.out _ (hxr1.trans hxq)).mono ?_
   rintro e w2 ⟨A3,c3,k3,n3,x3,A4,m4,c4,rfl,hOI,hx2⟩
   have hxr2:=(hxr1.trans hxq).trans hx2
   have HQ2:=Hy (bQ.ext hx2)
   have HGE:=fun {j:Nat} (h:Value.ownBlock (.slice Ai IL ci)=some j∨vo.ownBlock=some j)=>HFS1.out.ge h;have HFS2:=HFS1.out.ext (hxq.trans hx2)
   have hs1:=(hx1).size
   have hbl:=HFS1.out.blk.lt
   have hsq:w1.heap.size+1<=w2.heap.size:=by have:=hx2.size;rw[World.size_alloc] at this;exact this
   clear LB bQ lQ CLO HFS1
   have HOI2:OfIn (FarF (w.heap.size+1) (.slice Ai IL ci) vo) w2 ⟨on,⟨o1,o2,o3,oa⟩,os,of_,ow,od,ob,ot,og,oh,ou,ok⟩ A3 k3 n3 x3 A4 m4 c4:=hOI.keep (fun b _ (hb:(w1.alloc (.cells #[.string on,.int .i64 o1,.int .i64 o2,.int .i64 o3,.string oa,.string os,.slice A1 ol c1,.bool ow,.int .i64 kk,.string nn,.string xx,.slice A2 m2 c2,.int .i64 ob,.int .i64 ot,.int .i64 og,.bool oh,.bool ou,.bool ok] 66)).heap.size<=b)=>by
    rw[World.size_alloc] at hb
    refine⟨by omega,fun e=>?_,fun e=>?_⟩
    ·have:=(HGE (.inl e)).2;omega
    ·have:=(HGE (.inr e)).2;omega) (fun _ _ _ _ h=>h)
   have bN:=Blk.new w2 66 #[.string on,.int .i64 o1,.int .i64 o2,.int .i64 o3,.string oa,.string os,.slice A3 ol c3,.bool ow,.int .i64 k3,.string n3,.string x3,.slice A4 m4 c4,.int .i64 ob,.int .i64 ot,.int .i64 og,.bool oh,.bool ou,.bool ok]
   have hxn:Ext w2 (w2.alloc (.cells #[.string on,.int .i64 o1,.int .i64 o2,.int .i64 o3,.string oa,.string os,.slice A3 ol c3,.bool ow,.int .i64 k3,.string n3,.string x3,.slice A4 m4 c4,.int .i64 ob,.int .i64 ot,.int .i64 og,.bool oh,.bool ou,.bool ok] 66)):=(Ext.refl w2).alloc _
   have HFS3:=HFS2.ext hxn
   have HOI3:=HOI2.keep (P':=FarF (w.heap.size+1) (.slice Ai IL ci) vo) (fun _ _ h=>h) (fun _ _ _ _ hc=>hxn.cell hc)
   obtain⟨ys,hown,hoff⟩:=HFS3.oo
   have hlen:(S k).2.length<=k:=HLEN.out k
   obtain⟨II,hI0,hz0,hz1,hz2⟩:=info_parts infOffer
   obtain⟨NW,hNW⟩:∃ NW:List Value,NW=(#[.string on,.int .i64 o1,.int .i64 o2,.int .i64 o3,.string oa,.string os,.slice A3 ol c3,.bool ow,.int .i64 k3,.string n3,.string x3,.slice A4 m4 c4,.int .i64 ob,.int .i64 ot,.int .i64 og,.bool oh,.bool ou,.bool ok]:Array Value).toList:=⟨_,rfl⟩
   have hnl:NW.length=1 * 18:=by rw[hNW];rfl
   have hns:∀ j u,NW[j]?=some u->(w2.alloc (.cells #[.string on,.int .i64 o1,.int .i64 o2,.int .i64 o3,.string oa,.string os,.slice A3 ol c3,.bool ow,.int .i64 k3,.string n3,.string x3,.slice A4 m4 c4,.int .i64 ob,.int .i64 ot,.int .i64 og,.bool oh,.bool ou,.bool ok] 66)).cell? ((⟨w2.heap.size,0,none⟩:Addr).add j)=some u:=fun j u hu=>by rw[hNW] at hu;rw[Addr.add_lit,Nat.zero_add];exact (bN.cell j).trans (by simpa using hu)
   have hkb:k<=1001:=by omega
   have h63:(S k).2.length+1<=maxLen:=by simp only[maxLen];omega
   have hby:((S k).2.length+1) * 200<=140737488355328:=by omega
   have hB3:w.heap.size+2<=(w2.alloc (.cells #[.string on,.int .i64 o1,.int .i64 o2,.int .i64 o3,.string oa,.string os,.slice A3 ol c3,.bool ow,.int .i64 k3,.string n3,.string x3,.slice A4 m4 c4,.int .i64 ob,.int .i64 ot,.int .i64 og,.bool oh,.bool ou,.bool ok] 66)).heap.size:=by have:=HFS3.blk.lt;have:=hxn.size;omega
   have h1v:∀ u∈NW,u.oneCell'=true:=by rw[hNW];simp[Value.oneCell']
   have HNW:=Hy (show ofCs ⟨on,⟨o1,o2,o3,oa⟩,os,of_,ow,od,ob,ot,og,oh,ou,ok⟩ A3 c3 k3 n3 x3 A4 m4 c4=NW from by rw[hNW,<-HOF.out];first|done|rfl)
   clear hNW
   have HEND:=Hy (fun (vo':Value) (w3:World) (ho':w3.ownsRow (w.heap.size+2) 66 18 vo' ((S k).2.length+1) (ys++NW)) (hg:(w2.alloc (.cells #[.string on,.int .i64 o1,.int .i64 o2,.int .i64 o3,.string oa,.string os,.slice A3 ol c3,.bool ow,.int .i64 k3,.string n3,.string x3,.slice A4 m4 c4,.int .i64 ob,.int .i64 ot,.int .i64 og,.bool oh,.bool ou,.bool ok] 66)).grownBy w3 vo.ownBlock) (hnew:vo'.ownBlock=vo.ownBlock∨∀ k,vo'.ownBlock=some k->(w2.alloc (.cells #[.string on,.int .i64 o1,.int .i64 o2,.int .i64 o3,.string oa,.string os,.slice A3 ol c3,.bool ow,.int .i64 k3,.string n3,.string x3,.slice A4 m4 c4,.int .i64 ob,.int .i64 ot,.int .i64 og,.bool oh,.bool ou,.bool ok] 66)).heap.size<=k) =>
    show FoS w3 (w.heap.size+1) (w.heap.size+2) (fun g t cs=>g=w.heap.size∧t=59∧cs=#[.string ch,.int .i64 sr,.int .i64 tm,.slice (some ⟨b,i0,none⟩) n c]) (.string mn) (.slice Af nf cf) (.slice As ns cs) (.slice Ap np cp) (.slice Ai IL ci) vo' I (S (k+1)).2∧Ext w w3∧Blk w3 w1.heap.size 66 #[.string on,.int .i64 o1,.int .i64 o2,.int .i64 o3,.string oa,.string os,.slice A1 ol c1,.bool ow,.int .i64 kk,.string nn,.string xx,.slice A2 m2 c2,.int .i64 ob,.int .i64 ot,.int .i64 og,.bool oh,.bool ou,.bool ok] from
    ⟨by rw[HSS.out];exact HFS3.app hown hoff HOI3 (by rw[HNW.out];exact ho') hg hnew,(hxr2.trans hxn).grown hown (by omega) hg,((HQ2.out.alloc _).grownR hg (fun e=>by have:=(HGE (.inr e.symm)).2;omega))⟩)
   go_wp2_with (at_builtin;refine wpList_append_lies _ rfl _ _ 57 rfl (w.heap.size+2) 66 II _ 18 200 Tryz.underlying57 hI0 hz0 hz1 hz2 (by rfl) (by decide) _ _ ys rfl hown ⟨w2.heap.size,0,none⟩ 1 1 NW rfl hnl hns h1v (by decide) h63 hby hB3 (w2.alloc (.cells #[.string on,.int .i64 o1,.int .i64 o2,.int .i64 o3,.string oa,.string os,.slice A3 ol c3,.bool ow,.int .i64 k3,.string n3,.string x3,.slice A4 m4 c4,.int .i64 ob,.int .i64 ot,.int .i64 og,.bool oh,.bool ou,.bool ok] 66)).heap.size rfl ?_;intro g' cap' w3 hown' hgr hnew hlt;(have HC:=Hy (HEND.out _ w3 hown' hgr (hnew.elim (fun h=>.inl h.symm) fun h=>.inr fun k hk=>by rw[<-h];exact Nat.le_of_eq (Option.some.inj hk))));clear hown hown' hgr hnew hlt hns h1v)
   go_meet
   case rel=>exact⟨_,rfl,Hy HC.out.1,HC.out.2.1,Hy HC.out.2.2⟩
  case rest =>
  have hbl:=HFS1.out.blk.lt
  clear HFS1 CLO bQ lQ LB hxq HLEN
  obtain⟨vo',rfl,HF4,hx3,HQ3⟩:=hcut
  obtain⟨w3,rfl⟩:∃ w3:World,w3=wc:=⟨_,rfl⟩
  have eM3:=HF4.out.blk.cell;have lM3:=HF4.out.blk.lt
  have CBI:=Hy (fun W Ai ci (h:RdIns W Ai I)=>BinI_any Ai IL ci I nm W HIL.out.symm h hIl HIO.out.asc)
  go_wp2_with fail
  refine (CBI.out w3 Ai ci HF4.out.rd.1).mono ?_
  rintro e w4 ⟨i2,r,rfl,hi2,hbel,hhit,hgt,hx4⟩
  have HFS5:=HF4.out.ext hx4
  have HQ4:=HQ3.out.ext hx4
  have hxr4:=hx3.trans hx4
  have eQ:=HQ4.cell;have lQ:=HQ4.lt
  have HBEL:=Hy (show ∀ j (hj:j < i2) (hjl:j < I.length),I[j].name.toList≠nm.toList from fun j hj hjl=>name_ne (hbel j hjl hj))
  have hi3:i2<=I.length:=by rw[<-HIL.out];exact hi2
  clear eM3 lM3 HF4 HQ3 HQ4 CBI hx3 hx4 HOL HOF hx1
  have HHIT:=Hy hhit;have HGT0:=Hy hgt;have HBL:=Hy hbel;have HF5:=Hy HFS5;have HGI:=Hy hgI
  clear hhit hgt hbel HFS5 hgI
  cases r
  ·skip
   have HGT:=Hy (HGT0.out rfl)
   have bI:=Blk.new w4 178 #[.string nm,.int .i64 o1,.int .i64 o2,.int .i64 o3,.string oa,.slice none 0 0,.bool false]
   have hxi:Ext w4 (w4.alloc (.cells #[.string nm,.int .i64 o1,.int .i64 o2,.int .i64 o3,.string oa,.slice none 0 0,.bool false] 178)):=(Ext.refl w4).alloc _
   have HFS6:=HF5.out.ext hxi
   obtain⟨xs,hown,hinI⟩:=HFS6.oi
   have hB6:w.heap.size+2<=(w4.alloc (.cells #[.string nm,.int .i64 o1,.int .i64 o2,.int .i64 o3,.string oa,.slice none 0 0,.bool false] 178)).heap.size:=by have:=HFS6.blk.lt;have:=hxi.size;have:=hxr4.size;omega
   have CI:=InsI_any (w.heap.size+2) (.slice Ai IL ci) I.length i2 xs w4.heap.size 1 (#[.string nm,.int .i64 o1,.int .i64 o2,.int .i64 o3,.string oa,.slice none 0 0,.bool false]:Array Value).toList (w4.alloc (.cells #[.string nm,.int .i64 o1,.int .i64 o2,.int .i64 o3,.string oa,.slice none 0 0,.bool false] 178)) hown hi3 (by rw[<-HIL.out];omega) hB6 bI
    (fun e=>by have:=(HF5.out.ge (.inl e)).2;omega) rfl hinI.one (by simp[Value.oneCell'])
   have eM:=HF5.out.blk.cell;have lM:=HF5.out.blk.lt
   have HOWN:=Hy hown;have HINI:=Hy hinI;have CI:=Hy CI;have HF6:=Hy HFS6;have HXI:=Hy hxi
   clear hown hinI HFS6 hxi bI hB6
   go_wp2_with fail
   refine CI.out.mono ?_
   rintro e w5 ⟨v',rfl,hown',hgr,hnew⟩
   have hown:=HOWN.out;have hinI:=HINI.out;have HFS6:=HF6.out;have hxi:=HXI.out
   obtain⟨A7,c7,rfl⟩:=own_slice hown'
   have HFS7:=HFS6.ins (x:=⟨nm,⟨o1,o2,o3,oa⟩⟩) (A:=none) (m:=0) (c:=0) (bb:=false) hown hinI hi3 hown' hgr hnew
   have hx5:Ext w w5:=(hxr4.trans hxi).grown hown (by omega) hgr
   have bM:=HFS6.blk.grownR hgr (fun e=>by have:=(HFS6.ge (.inl e.symm)).1;omega)
   have eM5:=bM.cell;have lM5:=bM.lt;have fM5:=bM.free
   have hx6:Ext w (w5.setCell ⟨w.heap.size+1,1,none⟩ (.slice A7 (I.length+1) c7)):=hx5.setCell (Nat.le_succ _) _
   have hln:(I.take i2++(⟨nm,⟨o1,o2,o3,oa⟩⟩:Ins)::I.drop i2).length=I.length+1:=by simp;omega
   have hput:Put I (I.take i2++⟨nm,⟨o1,o2,o3,oa⟩⟩::I.drop i2) nm ⟨o1,o2,o3,oa⟩:=put_ins _ hi3 (fun j hj=>HBEL.out j hj (by omega))
   have HF7:=Hy HFS7;have HPUT:=Hy hput;have HX6:=Hy hx6;have HLN:=Hy hln
   clear eM lM eQ lQ bM HFS6 hown hown' hgr hnew CI HFS7 hput hx6 hx5 hxi hinI hln HOWN HINI HF6 HF5 HXI
   go_wp2_with fail
   go_roundw
   case rel =>
    refine⟨k+1,I.take i2++⟨nm,⟨o1,o2,o3,oa⟩⟩::I.drop i2,A7,c7,_,hk1,rfl,by go_num,?_,?_,⟨HPUT.out.small HIO.out.small HNM.out HOV.out.2,HPUT.out.ok HIO.out.ok HOV.out.1,asc_ins HIO.out.asc hi3 nm ⟨o1,o2,o3,oa⟩ HBL.out HGT.out,by have:=HIO.out.len;rw[HLN.out];omega⟩,HX6.out⟩
    ·rw[HLN.out];exact HF7.out
    ·exact Hy (by rw[HSS.out];exact HPUT.out.was)
   case measure=>simp[intOf];omega
  ·skip
   obtain⟨hi4,hnm⟩:=HHIT.out rfl
   have HFS5:=HF5.out
   obtain⟨hrI,_,hgI⟩:=HFS5.rd
   obtain⟨g,rfl⟩:=hgI (by omega)
   obtain⟨g2,o2',e2,hX2⟩:=hrI (fun e=>by rw[e] at hi4;exact absurd hi4 (Nat.not_lt_zero _))
   injection e2 with e2
   injection e2 with e3 e4
   subst e3 e4
   obtain⟨A8,m8,c8,b8,hat⟩:=hX2 i2 hi4
   have z1:w4.cell? ⟨g,i2 * 7+1,none⟩=some (.int .i64 I[i2].vv.a1):=by have:=hat 1 _ rfl;rwa [Nat.zero_add] at this
   have z2:w4.cell? ⟨g,i2 * 7+2,none⟩=some (.int .i64 I[i2].vv.a2):=by have:=hat 2 _ rfl;rwa [Nat.zero_add] at this
   have z3:w4.cell? ⟨g,i2 * 7+3,none⟩=some (.int .i64 I[i2].vv.a3):=by have:=hat 3 _ rfl;rwa [Nat.zero_add] at this
   have z4:w4.cell? ⟨g,i2 * 7+4,none⟩=some (.string I[i2].vv.a):=by have:=hat 4 _ rfl;rwa [Nat.zero_add] at this
   obtain⟨xs,hown,hinI⟩:=HFS5.oi
   have hfz:∀ j,w4.frozen? ⟨g,j,none⟩=false:=fun j=>World.ownsRow.frozenAt (by rw[HIL.out] at hown;exact hown) j
   have hge:w.heap.size+2<=g∧g < w4.heap.size:=HFS5.ge (.inl rfl)
   have lg:=hge.2
   have HFS7:=HFS5.setv (g:=g) (cv:=ci) (by rw[HIL.out]) i2 hi4 ⟨o1,o2,o3,oa⟩
   have hx6:Ext w ((((w4.setCell ⟨g,i2 * 7+1,none⟩ (.int .i64 o1)).setCell ⟨g,i2 * 7+2,none⟩ (.int .i64 o2)).setCell ⟨g,i2 * 7+3,none⟩ (.int .i64 o3)).setCell ⟨g,i2 * 7+4,none⟩ (.string oa)) :=
    (((hxr4.setCell (by show w.heap.size<=g;omega) _).setCell (by show w.heap.size<=g;omega) _).setCell (by show w.heap.size<=g;omega) _).setCell (by show w.heap.size<=g;omega) _
   have hput:Put I (I.set i2 ⟨I[i2].name,⟨o1,o2,o3,oa⟩⟩) nm ⟨o1,o2,o3,oa⟩:=put_set _ hi4 (name_eq hnm) (fun j hj=>HBEL.out j hj (by omega))
   have eM:=HFS5.blk.cell;have lM:=HFS5.blk.lt
   have hiL:i2 < IL:=by rw[HIL.out];exact hi4
   have HFS8:=Hy HFS7;have HX6:=Hy hx6;have HPUT:=Hy hput;have HASC:=Hy (asc_set HIO.out.asc hi4 ⟨o1,o2,o3,oa⟩)
   clear HFS7 hx6 hput hat hX2 hrI HFS5 hown hinI HF5 hgI hge
   generalize I[i2].vv.a1=u1 at z1;generalize I[i2].vv.a2=u2 at z2;generalize I[i2].vv.a3=u3 at z3;generalize I[i2].vv.a=u4 at z4
   go_wp2_with fail
   go_roundw
   case rel =>
    refine⟨k+1,I.set i2 ⟨I[i2].name,⟨o1,o2,o3,oa⟩⟩,some ⟨g,0,none⟩,ci,_,hk1,rfl,by go_num,?_,?_,⟨HPUT.out.small HIO.out.small HNM.out HOV.out.2,HPUT.out.ok HIO.out.ok HOV.out.1,HASC.out,by have:=HIO.out.len;rw[List.length_set];omega⟩,HX6.out⟩
    ·rw[List.length_set,<-HIL.out];exact HFS8.out
    ·exact Hy (by rw[HSS.out];exact HPUT.out.was)
   case measure=>simp[intOf];omega
end Go.Proofs.YtmnafaaijglnfaaGreatDoor
