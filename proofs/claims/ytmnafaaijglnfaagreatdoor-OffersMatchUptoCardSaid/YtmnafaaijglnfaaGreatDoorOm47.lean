/- Contract of outref2.FollowOf. (Printed by gen/omp.py.) -/
import Derived.Test.YtmnafaaijglnfaaGreatDoorOm45
import Derived.Test.YtmnafaaijglnfaaGreatDoorOm46
namespace Go.Proofs.YtmnafaaijglnfaaGreatDoor
open Go.RowKit
theorem FoS.room {w:World} {b B:Nat} {K:Nat->TypeId->Array Value->Prop} {c0 c2 c3 c4 vo:Value} {I:List Ins} {out:List Of} {g n c:Nat} (h:FoS w b B K c0 c2 c3 c4 (.slice (some ⟨g,0,none⟩) n c) vo I out) {i:Nat} (hi:i < I.length):∃ u1 u2 u3 u4,w.cell? ⟨g,i * 7+1,none⟩=some u1∧w.cell? ⟨g,i * 7+2,none⟩=some u2∧w.cell? ⟨g,i * 7+3,none⟩=some u3∧w.cell? ⟨g,i * 7+4,none⟩=some u4∧(∀ j,w.frozen? ⟨g,j,none⟩=false)∧B<=g∧g < w.heap.size:=by
 obtain⟨hrI,hn,_⟩:=h.rd
 obtain⟨g2,o2,e2,hX2⟩:=hrI (fun e=>by rw[e] at hi;exact absurd hi (Nat.not_lt_zero _))
 injection e2 with e2
 injection e2 with e3 e4
 subst e3 e4
 obtain⟨A8,m8,c8,b8,hat⟩:=hX2 i hi
 rw[Nat.zero_add] at hat
 obtain⟨xs,hown,hinI⟩:=h.oi
 subst hn
 have hge:B<=g∧g < w.heap.size:=h.ge (.inl rfl)
 exact⟨_,_,_,_,hat 1 _ rfl,hat 2 _ rfl,hat 3 _ rfl,hat 4 _ rfl,fun j=>World.ownsRow.frozenAt hown j,hge.1,hge.2⟩
theorem set_mid {l:List Ins} {n:Nat} (hn:n<=l.length) (x:Ins) (v:V4) (h:n < (l.take n++x::l.drop n).length):(l.take n++x::l.drop n).set n ⟨((l.take n++x::l.drop n)[n]'h).name,v⟩=l.take n++⟨x.name,v⟩::l.drop n:=by
 have ht:(l.take n).length=n:=by rw[List.length_take];omega
 have e:(l.take n++x::l.drop n)[n]'h=x:=by rw[List.getElem_append_right (by omega)];simp[ht]
 rw[e,List.set_append_right _ _ (by omega),ht,Nat.sub_self]
 rfl
structure InsOf (I:List Ins) (k:Nat):Prop where
 small:SmallI I
 ok:∀ x∈I,x.vv.err=0
 len:I.length<=k
set_option maxHeartbeats 16000000 in
set_option maxRecDepth 100000 in
theorem FollowOf_any (ch:ByteArray) (sr tm:Int) (l:List Of) (A:Option Addr) (n c:Nat) (mc:Mac) (A':Option Addr) (n' c':Nat) (Af:Option Addr) (nf cf:Nat) (As:Option Addr) (ns cs:Nat) (Ap:Option Addr) (np cp:Nat) (nm:ByteArray) (t te:Int) (w:World) (hg:GoodS w) (hn:l.length=n) (hr:RdO w A l) (hs:∀ o∈l,SmallO o) (ho:∀ o∈l,ofErr o=0) (hl:n<=2097152) (hm:MacIn w mc A' n' Af nf As ns Ap np cp) (hsm:SmallM mc) (hme:macErr mc=0) (hli:n'<=2000000) (hnm:nm.size<=2097152) (ht0:0<=t) (htt:t<=te) (ht1:te<=1099511627776) (hrg:te - t<=3600000) :
 Calls Tryz.prog 69 #[.agg #[.string ch,.int .i64 sr,.int .i64 tm,.slice A n c],macV mc A' n' c' Af nf cf As ns cs Ap np cp,.string nm,.int .i64 t,.int .i64 te] w fun e w'=>∃ A' c',e=.returned (.slice A' (folL l mc nm t te).length c')∧RdO w' A' (folL l mc nm t te)∧Ext w w':=by
 have COD:=Hy (fun (I:List Ins) (Ai:Option Addr) (ni ci:Nat) (t':Int) W (h:Ext w W) (h1:I.length=ni) (h2:RdIns W Ai I) (h3:InsOf I 2097152) (h4:0<=t') (h5:t'<=1099511627776) =>
  show Calls Tryz.prog 67 #[.agg #[.string ch,.int .i64 sr,.int .i64 tm,.slice A n c],macV ⟨mc.name,I,mc.facts,mc.sets,mc.pins⟩ Ai ni ci Af nf cf As ns cs Ap np cp,.string nm,.int .i64 t'] W fun e w'=>(∃ A c kk n x A2 m c2,e=.returned (.tuple #[ofV (offO l (folR l mc nm t' (wasL I nm.toList))) A c kk n x A2 m c2,.int .i64 (folR l mc nm t' (wasL I nm.toList)).2])∧OfIn AnyB w (offO l (folR l mc nm t' (wasL I nm.toList))) A kk n x A2 m c2)∧Ext W w' from by
   have ok:=MacOk.of hme
   rw[<-folR_of]
   exact OfferedOf_any ch sr tm l A n c ⟨mc.name,I,mc.facts,mc.sets,mc.pins⟩ Ai ni ci Af nf cf As ns cs Ap np cp nm t' w W h (hg.ext h) hn hr hs ho hl
    ⟨h1,hm.ef,hm.es,hm.ep,h2,hm.rf.ext h,hm.rs.ext h,hm.rp.ext h,hm.cap⟩ ⟨hsm.name,h3.small,hsm.facts,hsm.sets,hsm.pins,h3.len,hsm.lf,hsm.ls,hsm.lp⟩
    ⟨ok.name,fun i hi=>h3.ok _ (List.getElem_mem hi),ok.facts,ok.sets,ok.pins⟩ h4 h5)
 have HOFS:=Hy (fun i (hi:i < l.length)=>of_parts (hs _ (List.getElem_mem hi)) (ho _ (List.getElem_mem hi)))
 have CCL:=Hy (fun W (h:Ext w W)=>CloneIn_any mc.inst A' n' c' W hm.ei (hm.ri.ext h) (by omega))
 have HI0:=Hy (show InsOf mc.inst n' from by
  have h1:=mac_parts hme
  exact⟨hsm.inst,fun x hx=>by obtain⟨i,hi,rfl⟩:=List.mem_iff_getElem.1 hx;exact ins_ok h1.2.1 hi,by rw[hm.ei];exact Nat.le_refl _⟩)
 have HNO:=Hy (fun k=>folS_no (l:=l) (m:=mc) (nm:=nm) (t0:=t) (k:=k))
 have HYES:=Hy (fun k i (hi:i < l.length)=>folS_yes (m:=mc) (nm:=nm) (t0:=t) (k:=k) hi)
 have HRC:=Hy (fun t' was=>show ((folR l mc nm t' was).1 < 0∧(folR l mc nm t' was).1=-1∧(folR l mc nm t' was).2≠0)∨(∃ i,∃ h:i < l.length,(folR l mc nm t' was).1=(i:Int)∧(folR l mc nm t' was).2=0) from offR_cases l _ _)
 have HLEN:=Hy (folS_len l mc nm t)
 have HS0:=Hy (show folS l mc nm t 0=(wasL mc.inst nm.toList,[]) from rfl)
 have HRES:=Hy (show folL l mc nm t te=(folS l mc nm t (folK t te)).2 from rfl)
 have HEI:=Hy hm.ei
 have HNM:=Hy hnm
 have hen:∀ xs w,Sem.run Tryz.prog (callFunc 144 xs) w=.ok (.enter 144 xs) w:=fun xs w=>by kernel_rfl
 have HEN:=Hy hen
 clear hg hn hr hs ho hl hm hsm hme hnm hen
 rw[HRES.out]
 clear HRES
 generalize folS l mc nm t=S at *
 generalize folR l mc nm=R at *
 obtain⟨mn,mi,mf,ms,mp⟩:=mc
 dsimp only[macV] at *
 have BF:Blk (((w.alloc (.cells #[.string ch,.int .i64 sr,.int .i64 tm,.slice A n c] 59)).alloc (.cells #[.string mn,.slice A' n' c',.slice Af nf cf,.slice As ns cs,.slice Ap np cp] 96)).alloc (.cells #[.string nm] 9)) w.heap.size 59 #[.string ch,.int .i64 sr,.int .i64 tm,.slice A n c]:=((Blk.new w 59 #[.string ch,.int .i64 sr,.int .i64 tm,.slice A n c]).alloc _).alloc _
 have BM:Blk (((w.alloc (.cells #[.string ch,.int .i64 sr,.int .i64 tm,.slice A n c] 59)).alloc (.cells #[.string mn,.slice A' n' c',.slice Af nf cf,.slice As ns cs,.slice Ap np cp] 96)).alloc (.cells #[.string nm] 9)) (w.heap.size+1) 96 #[.string mn,.slice A' n' c',.slice Af nf cf,.slice As ns cs,.slice Ap np cp]:=by
  have:=(Blk.new (w.alloc (.cells #[.string ch,.int .i64 sr,.int .i64 tm,.slice A n c] 59)) 96 #[.string mn,.slice A' n' c',.slice Af nf cf,.slice As ns cs,.slice Ap np cp]).alloc (.cells #[.string nm] 9)
  rwa [World.size_alloc] at this
 have BN:Blk (((w.alloc (.cells #[.string ch,.int .i64 sr,.int .i64 tm,.slice A n c] 59)).alloc (.cells #[.string mn,.slice A' n' c',.slice Af nf cf,.slice As ns cs,.slice Ap np cp] 96)).alloc (.cells #[.string nm] 9)) (w.heap.size+2) 9 #[.string nm]:=by
  have:=Blk.new ((w.alloc (.cells #[.string ch,.int .i64 sr,.int .i64 tm,.slice A n c] 59)).alloc (.cells #[.string mn,.slice A' n' c',.slice Af nf cf,.slice As ns cs,.slice Ap np cp] 96)) 9 #[.string nm]
  rwa [World.size_alloc,World.size_alloc] at this
 have hx0:Ext w (((w.alloc (.cells #[.string ch,.int .i64 sr,.int .i64 tm,.slice A n c] 59)).alloc (.cells #[.string mn,.slice A' n' c',.slice Af nf cf,.slice As ns cs,.slice Ap np cp] 96)).alloc (.cells #[.string nm] 9)):=(((Ext.refl w).alloc _).alloc _).alloc _
 have BF:=Hy BF;have BM:=Hy BM;have BN:=Hy BN
 go_enter Tryz.func69,Tryz.ntmps69
 go_upto_region 0 with fail
 go_cut [3,4,5,6,7] (fun s3 s4 s5 s6 s7 wx=>s3=.int .i64 t∧s4=.int .i64 te∧s5=.pointer (some ⟨w.heap.size,0,none⟩)∧s6=.pointer (some ⟨w.heap.size+1,0,none⟩)∧s7=.pointer (some ⟨w.heap.size+2,0,none⟩)∧Hid (Blk wx w.heap.size 59 #[.string ch,.int .i64 sr,.int .i64 tm,.slice A n c])∧Hid (Blk wx (w.heap.size+1) 96 #[.string mn,.slice A' n' c',.slice Af nf cf,.slice As ns cs,.slice Ap np cp])∧Hid (Blk wx (w.heap.size+2) 9 #[.string nm])∧Ext w wx)
 case first=>as_aux_lemma =>
  go_wp2
  go_meet
  case rel=>exact⟨rfl,rfl,rfl,rfl,rfl,BF,BM,BN,hx0⟩
 case rest =>
 clear BF BM BN hx0
 obtain⟨rfl,rfl,rfl,rfl,rfl,BF,BM,BN,hx0⟩:=hcut
 obtain⟨W0,rfl⟩:∃ W0:World,W0=wc:=⟨_,rfl⟩
 have eM:=BM.out.cell;have lM:=BM.out.lt
 have CL:=Hy (CCL.out W0 hx0)
 have hsz:w.heap.size+3<=W0.heap.size:=BN.out.lt
 go_wp2_with fail
 refine CL.out.mono ?_
 rintro e w2 ⟨v',rfl,xs,hown,hin,hx2⟩
 obtain⟨Ai,ci,rfl⟩:=own_slice hown
 clear eM lM CL
 have bM:=BM.out.ext hx2
 have eM:=bM.cell;have lM:=bM.lt;have fM:=bM.free
 have HFS:FoS (w2.setCell ⟨w.heap.size+1,1,none⟩ (.slice Ai n' ci)) (w.heap.size+1) (w.heap.size+3) (fun g t cs=>(g=w.heap.size∧t=59∧cs=#[.string ch,.int .i64 sr,.int .i64 tm,.slice A n c])∨(g=w.heap.size+2∧t=9∧cs=#[.string nm])) (.string mn) (.slice Af nf cf) (.slice As ns cs) (.slice Ap np cp) (.slice Ai n' ci) (.slice none 0 0) mi [] :=
  ⟨bM.set 1 _,⟨xs,by rw[HEI.out];exact ownsRow_setCell_below (own_lower hown hsz) (by show w.heap.size+1 < w.heap.size+3;omega) _,hin⟩,⟨[],⟨rfl,.inl ⟨rfl,rfl⟩⟩,rfl⟩,fun k _ h=>(by cases h),fun g t cs hk=>by
    rcases hk with ⟨rfl,rfl,rfl⟩|⟨rfl,rfl,rfl⟩
    ·exact (BF.out.ext hx2).far (by show w.heap.size≠w.heap.size+1;omega) _
    ·exact (BN.out.ext hx2).far (by show w.heap.size+2≠w.heap.size+1;omega) _,fun g t cs hk=>by rcases hk with ⟨rfl,_⟩|⟨rfl,_⟩<;>exact⟨by omega,by omega⟩,by omega⟩
 have HFS0:=Hy HFS
 have hxc:Ext w (w2.setCell ⟨w.heap.size+1,1,none⟩ (.slice Ai n' ci)):=(hx0.trans hx2).setCell (Nat.le_succ _) _
 clear HFS bM hown hin BF BM BN hx2 hx0 hsz
 go_wp2_with fail
 clear eM lM fM
 go_loopw [11,12] (fun s11 s12 wr=>∃ (k:Nat) (I:List Ins) (Ai:Option Addr) (ci:Nat) (vo:Value),k<=folK t te∧vo=s11∧s12=.int .i64 (t+3600 * k)∧Hid (FoS wr (w.heap.size+1) (w.heap.size+3) (fun g t cs=>(g=w.heap.size∧t=59∧cs=#[.string ch,.int .i64 sr,.int .i64 tm,.slice A n c])∨(g=w.heap.size+2∧t=9∧cs=#[.string nm])) (.string mn) (.slice Af nf cf) (.slice As ns cs) (.slice Ap np cp) (.slice Ai I.length ci) vo I (S k).2)∧Hid (wasL I nm.toList=(S k).1)∧Hid (InsOf I (n'+k))∧Ext w wr) (fun _ s12 _=>(te+1 - intOf s12).toNat)
 case atStart =>
  refine⟨0,mi,Ai,ci,.slice none 0 0,Nat.zero_le _,rfl,?_,?_,?_,HI0,hxc⟩
  ·go_num
  ·rw[HS0.out,HEI.out];exact HFS0
  ·exact Hy (by rw[HS0.out])
 case round =>
  clear HFS0 hxc
  obtain⟨k,I,Ai,ci,vo,hk,rfl,rfl,HFS,HW,HIO,hxr⟩:=hrel
  obtain⟨wo,rfl⟩:∃ wo:World,wo=wr:=⟨_,rfl⟩
  have hKK:folK t te=((te - t) / 3600).toNat+1:=rfl
  by_cases htk:t+3600 * (k:Int)<=te
  rotate_left
  ·as_aux_lemma =>
   obtain rfl:k=folK t te:=by omega
   obtain⟨A5,c5,rfl,hrd⟩:=HFS.out.offers
   go_wp2
   go_ret
   exact⟨A5,⟨c5,rfl⟩,hrd,hxr⟩
  have hk1:k+1<=folK t te:=by omega
  have hIl:I.length<=2097152:=by have:=HIO.out.len;omega
  obtain⟨A6,c6,he6,hrI,hgI⟩:=HFS.out.slice
  injection he6 with e1 e2 e3
  subst e1 e3
  clear e2
  have CO:=Hy (fun W (h:Ext wo W)=>COD.out I Ai I.length ci (t+3600 * k) W (hxr.trans h) rfl (hrI.ext h) ⟨HIO.out.small,HIO.out.ok,hIl⟩ (by omega) (by omega))
  have HCASE:=Hy (HRC.out (t+3600 * k) (wasL I nm.toList))
  have HNK:=Hy (show (R (t+3600 * k) (wasL I nm.toList)).1 < 0->S (k+1)=S k from by rw[HW.out];exact HNO.out k)
  have HYK:=Hy (show ∀ i (hi:i < l.length),(R (t+3600 * k) (wasL I nm.toList)).1=i->S (k+1)=(some l[i].vv,(S k).2++[l[i]]) from fun i hi h=>HYES.out k i hi (by rw[<-HW.out];exact h))
  clear hrI
  generalize R (t+3600 * k) (wasL I nm.toList)=RV at *
  obtain⟨IL,hIL⟩:∃ IL,IL=I.length:=⟨_,rfl⟩
  have HIL:=Hy hIL
  rw[<-hIL] at CO HFS hIl
  have bM:=HFS.out.blk
  have bF:=HFS.out.kp _ _ _ (.inl ⟨rfl,rfl,rfl⟩)
  have bN:=HFS.out.kp _ _ _ (.inr ⟨rfl,rfl,rfl⟩)
  have eM:=bM.cell;have lM:=bM.lt;have eF:=bF.cell;have lF:=bF.lt;have eN:=bN.cell;have lN:=bN.lt
  clear bM bF bN hIL
  have hKt:t+3600 * (k:Int)<=1099511627776:=by omega
  have hK0:0<=t+3600 * (k:Int):=by omega
  go_wp2_with fail
  refine (CO.out _ (Ext.refl _)).mono ?_
  rintro e w1 ⟨⟨A1,c1,kk,nn,xx,A2,m2,c2,rfl,hOI⟩,hx1⟩
  have hxr1:=hxr.trans hx1
  have HFS1:=Hy (HFS.out.ext hx1)
  have hwl:w.heap.size+2 < w1.heap.size:=(HFS1.out.kp _ _ _ (.inr ⟨rfl,rfl,rfl⟩)).lt
  have hsz:=hxr.size
  clear eM lM eF lF eN lN CO HFS
  generalize hoo:offO l RV=o at *
  have HOO:=Hy hoo
  clear hoo
  obtain⟨on,⟨o1,o2,o3,oa⟩,os,of_,ow,od,ob,ot,og,oh,ou,ok⟩:=o
  dsimp only[ofV] at *
  generalize hof:of_.length=ol at *
  have HOF:=Hy hof
  clear hof
  obtain⟨RI,RY⟩:=RV
  dsimp only at *
  have LSF:(storeVar 66 ⟨w1.heap.size,0,none⟩ (.agg #[.string on,.int .i64 o1,.int .i64 o2,.int .i64 o3,.string oa,.string os,.slice A1 ol c1,.bool ow,.int .i64 kk,.string nn,.string xx,.slice A2 m2 c2,.int .i64 ob,.int .i64 ot,.int .i64 og,.bool oh,.bool ou,.bool ok])).run Tryz.prog (w1.alloc (.cells #[.string ⟨#[]⟩,.int .i64 0,.int .i64 0,.int .i64 0,.string ⟨#[]⟩,.string ⟨#[]⟩,.slice none 0 0,.bool false,.int .i64 0,.string ⟨#[]⟩,.string ⟨#[]⟩,.slice none 0 0,.int .i64 0,.int .i64 0,.int .i64 0,.bool false,.bool false,.bool false] 66))=.ok () (w1.alloc (.cells #[.string on,.int .i64 o1,.int .i64 o2,.int .i64 o3,.string oa,.string os,.slice A1 ol c1,.bool ow,.int .i64 kk,.string nn,.string xx,.slice A2 m2 c2,.int .i64 ob,.int .i64 ot,.int .i64 og,.bool oh,.bool ou,.bool ok] 66)):=store_fresh w1
  rcases HCASE.out with ⟨q1,q2,q3⟩|⟨i,hi,q2,q3⟩
  ·as_aux_lemma =>
   obtain rfl:RI=-1:=q2
   have HSS:=Hy (HNK.out (by decide))
   have hne:(RY==0)=false:=by rw[beq_eq_false_iff_ne];exact q3
   have hxq:Ext w1 (w1.alloc (.cells #[.string on,.int .i64 o1,.int .i64 o2,.int .i64 o3,.string oa,.string os,.slice A1 ol c1,.bool ow,.int .i64 kk,.string nn,.string xx,.slice A2 m2 c2,.int .i64 ob,.int .i64 ot,.int .i64 og,.bool oh,.bool ou,.bool ok] 66)):=(Ext.refl w1).alloc _
   clear q1 q3
   go_wp2_with (first|(with_reducible show wpList _ _ _ ({ op:=Op.store _ _ _,.. }::_) _ _;refine wpList_store_at rfl _ _ _ rfl _ rfl _ rfl _ LSF ?_))
   go_roundw
   case rel =>
    refine⟨k+1,I,Ai,ci,vo,hk1,rfl,by go_num,?_,?_,⟨HIO.out.small,HIO.out.ok,by have:=HIO.out.len;omega⟩,hxr1.trans hxq⟩
    ·rw[HSS.out,<-HIL.out];exact HFS1.out.ext hxq
    ·exact Hy (by rw[HSS.out];exact HW.out)
   case measure=>simp[intOf];omega
  obtain rfl:RI=(i:Int):=q2
  obtain rfl:RY=0:=q3
  have HSS:=Hy (HYK.out i hi rfl)
  have HOV:=Hy (HOFS.out i hi)
  have HLI:l[i]=⟨on,⟨o1,o2,o3,oa⟩,os,of_,ow,od,ob,ot,og,oh,ou,ok⟩:=by
   rw[<-HOO.out]
   unfold offO
   rw[if_pos (show (0:Int)<=(i:Int) by omega)]
   exact (getD_atO hi).symm
  rw[HLI] at HSS HOV
  clear HLI HRC COD HCASE HNK HYK HNO HYES CCL HI0 HOFS HW HOO
  have bQ:=Blk.new w1 66 #[.string on,.int .i64 o1,.int .i64 o2,.int .i64 o3,.string oa,.string os,.slice A1 ol c1,.bool ow,.int .i64 kk,.string nn,.string xx,.slice A2 m2 c2,.int .i64 ob,.int .i64 ot,.int .i64 og,.bool oh,.bool ou,.bool ok]
  have lQ:=bQ.lt
  have hxq:Ext w1 (w1.alloc (.cells #[.string on,.int .i64 o1,.int .i64 o2,.int .i64 o3,.string oa,.string os,.slice A1 ol c1,.bool ow,.int .i64 kk,.string nn,.string xx,.slice A2 m2 c2,.int .i64 ob,.int .i64 ot,.int .i64 og,.bool oh,.bool ou,.bool ok] 66)):=(Ext.refl w1).alloc _
  have LB:=load_blk bQ rfl
  have HGE:=fun {j:Nat} (h:Value.ownBlock (.slice Ai IL ci)=some j∨vo.ownBlock=some j)=>HFS1.out.ge h
  have HQ2:=Hy bQ
  have hs1:=hx1.size
  have hsq:(w1.alloc (.cells #[.string on,.int .i64 o1,.int .i64 o2,.int .i64 o3,.string oa,.string os,.slice A1 ol c1,.bool ow,.int .i64 kk,.string nn,.string xx,.slice A2 m2 c2,.int .i64 ob,.int .i64 ot,.int .i64 og,.bool oh,.bool ou,.bool ok] 66)).heap.size=w1.heap.size+1:=World.size_alloc _ _
  have HFS2:=HFS1.out.ext hxq
  have hxr2:=hxr1.trans hxq
  have HOI2:OfIn (FarF (w.heap.size+1) (.slice Ai IL ci) vo) (w1.alloc (.cells #[.string on,.int .i64 o1,.int .i64 o2,.int .i64 o3,.string oa,.string os,.slice A1 ol c1,.bool ow,.int .i64 kk,.string nn,.string xx,.slice A2 m2 c2,.int .i64 ob,.int .i64 ot,.int .i64 og,.bool oh,.bool ou,.bool ok] 66)) ⟨on,⟨o1,o2,o3,oa⟩,os,of_,ow,od,ob,ot,og,oh,ou,ok⟩ A1 kk nn xx A2 m2 c2:=hOI.keep (fun b hb _=>⟨by omega,fun e=>by have:=(HGE (.inl e)).1;omega,fun e=>by have:=(HGE (.inr e)).1;omega⟩) (fun _ _ _ _ hc=>hxr2.cell hc)
  have bN:=Blk.new (w1.alloc (.cells #[.string on,.int .i64 o1,.int .i64 o2,.int .i64 o3,.string oa,.string os,.slice A1 ol c1,.bool ow,.int .i64 kk,.string nn,.string xx,.slice A2 m2 c2,.int .i64 ob,.int .i64 ot,.int .i64 og,.bool oh,.bool ou,.bool ok] 66)) 66 #[.string on,.int .i64 o1,.int .i64 o2,.int .i64 o3,.string oa,.string os,.slice A1 ol c1,.bool ow,.int .i64 kk,.string nn,.string xx,.slice A2 m2 c2,.int .i64 ob,.int .i64 ot,.int .i64 og,.bool oh,.bool ou,.bool ok]
  rw[World.size_alloc] at bN
  have hxn:Ext (w1.alloc (.cells #[.string on,.int .i64 o1,.int .i64 o2,.int .i64 o3,.string oa,.string os,.slice A1 ol c1,.bool ow,.int .i64 kk,.string nn,.string xx,.slice A2 m2 c2,.int .i64 ob,.int .i64 ot,.int .i64 og,.bool oh,.bool ou,.bool ok] 66)) ((w1.alloc (.cells #[.string on,.int .i64 o1,.int .i64 o2,.int .i64 o3,.string oa,.string os,.slice A1 ol c1,.bool ow,.int .i64 kk,.string nn,.string xx,.slice A2 m2 c2,.int .i64 ob,.int .i64 ot,.int .i64 og,.bool oh,.bool ou,.bool ok] 66)).alloc (.cells #[.string on,.int .i64 o1,.int .i64 o2,.int .i64 o3,.string oa,.string os,.slice A1 ol c1,.bool ow,.int .i64 kk,.string nn,.string xx,.slice A2 m2 c2,.int .i64 ob,.int .i64 ot,.int .i64 og,.bool oh,.bool ou,.bool ok] 66)):=(Ext.refl (w1.alloc (.cells #[.string on,.int .i64 o1,.int .i64 o2,.int .i64 o3,.string oa,.string os,.slice A1 ol c1,.bool ow,.int .i64 kk,.string nn,.string xx,.slice A2 m2 c2,.int .i64 ob,.int .i64 ot,.int .i64 og,.bool oh,.bool ou,.bool ok] 66))).alloc _
  have HFS3:=HFS2.ext hxn
  have HOI3:=HOI2.keep (P':=FarF (w.heap.size+1) (.slice Ai IL ci) vo) (fun _ _ h=>h) (fun _ _ _ _ hc=>hxn.cell hc)
  obtain⟨ys,hown,hoff⟩:=HFS3.oo
  have hlen:(S k).2.length<=k:=HLEN.out k
  obtain⟨II,hI0,hz0,hz1,hz2⟩:=info_parts infOffer
  obtain⟨NW,hNW⟩:∃ NW:List Value,NW=(#[.string on,.int .i64 o1,.int .i64 o2,.int .i64 o3,.string oa,.string os,.slice A1 ol c1,.bool ow,.int .i64 kk,.string nn,.string xx,.slice A2 m2 c2,.int .i64 ob,.int .i64 ot,.int .i64 og,.bool oh,.bool ou,.bool ok]:Array Value).toList:=⟨_,rfl⟩
  have hnl:NW.length=1 * 18:=by rw[hNW];rfl
  have hns:∀ j u,NW[j]?=some u->((w1.alloc (.cells #[.string on,.int .i64 o1,.int .i64 o2,.int .i64 o3,.string oa,.string os,.slice A1 ol c1,.bool ow,.int .i64 kk,.string nn,.string xx,.slice A2 m2 c2,.int .i64 ob,.int .i64 ot,.int .i64 og,.bool oh,.bool ou,.bool ok] 66)).alloc (.cells #[.string on,.int .i64 o1,.int .i64 o2,.int .i64 o3,.string oa,.string os,.slice A1 ol c1,.bool ow,.int .i64 kk,.string nn,.string xx,.slice A2 m2 c2,.int .i64 ob,.int .i64 ot,.int .i64 og,.bool oh,.bool ou,.bool ok] 66)).cell? ((⟨w1.heap.size+1,0,none⟩:Addr).add j)=some u:=fun j u hu=>by rw[hNW] at hu;rw[Addr.add_lit,Nat.zero_add];exact (bN.cell j).trans (by simpa using hu)
  have hkb:k<=1001:=by omega
  have h63:(S k).2.length+1<=maxLen:=by simp only[maxLen];omega
  have hby:((S k).2.length+1) * 200<=140737488355328:=by omega
  have hB3:w.heap.size+3<=((w1.alloc (.cells #[.string on,.int .i64 o1,.int .i64 o2,.int .i64 o3,.string oa,.string os,.slice A1 ol c1,.bool ow,.int .i64 kk,.string nn,.string xx,.slice A2 m2 c2,.int .i64 ob,.int .i64 ot,.int .i64 og,.bool oh,.bool ou,.bool ok] 66)).alloc (.cells #[.string on,.int .i64 o1,.int .i64 o2,.int .i64 o3,.string oa,.string os,.slice A1 ol c1,.bool ow,.int .i64 kk,.string nn,.string xx,.slice A2 m2 c2,.int .i64 ob,.int .i64 ot,.int .i64 og,.bool oh,.bool ou,.bool ok] 66)).heap.size:=by
   have h1:=(HFS3.kp _ _ _ (.inr ⟨rfl,rfl,rfl⟩)).lt
   omega
  have h1v:∀ u∈NW,u.oneCell'=true:=by rw[hNW];simp[Value.oneCell']
  have HNW:=Hy (show ofCs ⟨on,⟨o1,o2,o3,oa⟩,os,of_,ow,od,ob,ot,og,oh,ou,ok⟩ A1 c1 kk nn xx A2 m2 c2=NW from by rw[hNW,<-HOF.out];first|done|rfl)
  clear hNW
  have HEND:=Hy (fun (vo':Value) (w3:World) (ho':w3.ownsRow (w.heap.size+3) 66 18 vo' ((S k).2.length+1) (ys++NW)) (hg:((w1.alloc (.cells #[.string on,.int .i64 o1,.int .i64 o2,.int .i64 o3,.string oa,.string os,.slice A1 ol c1,.bool ow,.int .i64 kk,.string nn,.string xx,.slice A2 m2 c2,.int .i64 ob,.int .i64 ot,.int .i64 og,.bool oh,.bool ou,.bool ok] 66)).alloc (.cells #[.string on,.int .i64 o1,.int .i64 o2,.int .i64 o3,.string oa,.string os,.slice A1 ol c1,.bool ow,.int .i64 kk,.string nn,.string xx,.slice A2 m2 c2,.int .i64 ob,.int .i64 ot,.int .i64 og,.bool oh,.bool ou,.bool ok] 66)).grownBy w3 vo.ownBlock) (hnew:vo'.ownBlock=vo.ownBlock∨∀ k,vo'.ownBlock=some k->((w1.alloc (.cells #[.string on,.int .i64 o1,.int .i64 o2,.int .i64 o3,.string oa,.string os,.slice A1 ol c1,.bool ow,.int .i64 kk,.string nn,.string xx,.slice A2 m2 c2,.int .i64 ob,.int .i64 ot,.int .i64 og,.bool oh,.bool ou,.bool ok] 66)).alloc (.cells #[.string on,.int .i64 o1,.int .i64 o2,.int .i64 o3,.string oa,.string os,.slice A1 ol c1,.bool ow,.int .i64 kk,.string nn,.string xx,.slice A2 m2 c2,.int .i64 ob,.int .i64 ot,.int .i64 og,.bool oh,.bool ou,.bool ok] 66)).heap.size<=k) =>
   show FoS w3 (w.heap.size+1) (w.heap.size+3) (fun g t cs=>(g=w.heap.size∧t=59∧cs=#[.string ch,.int .i64 sr,.int .i64 tm,.slice A n c])∨(g=w.heap.size+2∧t=9∧cs=#[.string nm])) (.string mn) (.slice Af nf cf) (.slice As ns cs) (.slice Ap np cp) (.slice Ai IL ci) vo' I (S (k+1)).2∧Ext w w3∧Blk w3 w1.heap.size 66 #[.string on,.int .i64 o1,.int .i64 o2,.int .i64 o3,.string oa,.string os,.slice A1 ol c1,.bool ow,.int .i64 kk,.string nn,.string xx,.slice A2 m2 c2,.int .i64 ob,.int .i64 ot,.int .i64 og,.bool oh,.bool ou,.bool ok] from
   ⟨by rw[HSS.out];exact HFS3.app hown hoff HOI3 (by rw[HNW.out];exact ho') hg hnew,(hxr2.trans hxn).grown hown (by omega) hg,((HQ2.out.alloc _).grownR hg (fun e=>by have:=(HGE (.inr e.symm)).2;omega))⟩)
  have CIX:=Hy (fun W Ai ci (h:RdIns W Ai I) (hc:W.cell? ⟨w.heap.size+2,0,none⟩=some (.string nm))=>IndexIns_any I Ai IL ci 144 (w.heap.size+2) nm W HIL.out.symm h hIl HEN.out (fun x A1 m c1 b W' hx=>fw1_any x A1 m c1 b (w.heap.size+2) nm W' (hx.cell hc)))
  have HFC:=Hy (findF_cases IL (insP I nm))
  go_wp2_with (first|(with_reducible show wpList _ _ _ ({ op:=Op.store _ _ _,.. }::_) _ _;refine wpList_store_at rfl _ _ _ rfl _ rfl _ rfl _ LSF ?_)|(with_reducible show wpList _ _ _ ({ op:=Op.load _ _,.. }::_) _ _;refine wpList_load_at rfl _ _ rfl _ rfl _ LB ?_)|(at_builtin;refine wpList_append_lies _ rfl _ _ 57 rfl (w.heap.size+3) 66 II _ 18 200 Tryz.underlying57 hI0 hz0 hz1 hz2 (by rfl) (by decide) _ _ ys rfl hown ⟨w1.heap.size+1,0,none⟩ 1 1 NW rfl hnl hns h1v (by decide) h63 hby hB3 ((w1.alloc (.cells #[.string on,.int .i64 o1,.int .i64 o2,.int .i64 o3,.string oa,.string os,.slice A1 ol c1,.bool ow,.int .i64 kk,.string nn,.string xx,.slice A2 m2 c2,.int .i64 ob,.int .i64 ot,.int .i64 og,.bool oh,.bool ou,.bool ok] 66)).alloc (.cells #[.string on,.int .i64 o1,.int .i64 o2,.int .i64 o3,.string oa,.string os,.slice A1 ol c1,.bool ow,.int .i64 kk,.string nn,.string xx,.slice A2 m2 c2,.int .i64 ob,.int .i64 ot,.int .i64 og,.bool oh,.bool ou,.bool ok] 66)).heap.size rfl ?_;intro g' cap' w3 hown' hgr hnew hlt;(obtain⟨HFS4,hx3,HQ3⟩:=HEND.out _ w3 hown' hgr (hnew.elim (fun h=>.inl h.symm) fun h=>.inr fun k hk=>by rw[<-h];exact Nat.le_of_eq (Option.some.inj hk)));(have eM3:=HFS4.blk.cell);(have lM3:=HFS4.blk.lt)))
  refine (CIX.out w3 Ai ci HFS4.rd.1 ((HFS4.kp _ _ _ (.inr ⟨rfl,rfl,rfl⟩)).cell 0)).mono ?_
  rintro e w4 ⟨rfl,hx4⟩
  have HGE2:=Hy (fun (j:Nat) (h:Value.ownBlock (.slice Ai IL ci)=some j∨vo.ownBlock=some j)=>HGE h);have HBF:=Hy hgI
  clear eM3 lM3 hns hown hown' hgr hnew hlt HEND HFS2 HFS3 HOI2 HOI3 hoff bN hxn HGE HQ2 hOI CIX h1v h63 hby hB3 LB bQ lQ hI0 hz0 hz1 hz2 II hnl hlen HNW HOF hgI
  have HF5:=Hy (HFS4.ext hx4)
  have HQ4:=Hy (HQ3.ext hx4)
  have hxr4:=hx3.trans hx4
  clear HFS4 HQ3 hx3 hx4
  have hi9:IL<=I.length:=by rw[HIL.out];exact Nat.le_refl _
  rcases HFC.out with ⟨hf,hno⟩|⟨i2,hi2,hf,hyes,hbefore⟩
  ·rw[hf]
   have HBEL:=Hy (show ∀ j (hj:j < I.length),I[j].name.toList≠nm.toList from fun j hj=>by
    have:=hno j (by rw[HIL.out];exact hj)
    rw[insP_at hj] at this
    simpa using this)
   clear hno hf HFC
   have bI:=Blk.new w4 178 #[.string nm,.int .i64 0,.int .i64 0,.int .i64 0,.string ⟨#[]⟩,.slice none 0 0,.bool false]
   have hxi:Ext w4 (w4.alloc (.cells #[.string nm,.int .i64 0,.int .i64 0,.int .i64 0,.string ⟨#[]⟩,.slice none 0 0,.bool false] 178)):=(Ext.refl w4).alloc _
   have HFS6:=HF5.out.ext hxi
   obtain⟨xs,hown,hinI⟩:=HFS6.oi
   rw[<-HIL.out] at hown
   have hB6:w.heap.size+3<=(w4.alloc (.cells #[.string nm,.int .i64 0,.int .i64 0,.int .i64 0,.string ⟨#[]⟩,.slice none 0 0,.bool false] 178)).heap.size:=by have h1:=(HFS6.kp _ _ _ (.inr ⟨rfl,rfl,rfl⟩)).lt;omega
   obtain⟨NI,hNI⟩:∃ NI:List Value,NI=(#[.string nm,.int .i64 0,.int .i64 0,.int .i64 0,.string ⟨#[]⟩,.slice none 0 0,.bool false]:Array Value).toList:=⟨_,rfl⟩
   have hnl:NI.length=1 * 7:=by rw[hNI];rfl
   have hnsI:∀ j u,NI[j]?=some u->(w4.alloc (.cells #[.string nm,.int .i64 0,.int .i64 0,.int .i64 0,.string ⟨#[]⟩,.slice none 0 0,.bool false] 178)).cell? ((⟨w4.heap.size,0,none⟩:Addr).add j)=some u:=fun j u hu=>by rw[hNI] at hu;rw[Addr.add_lit,Nat.zero_add];exact (bI.cell j).trans (by simpa using hu)
   obtain⟨IJ,hJ0,hj0,hj1,hj2⟩:=info_parts infInst
   have h63:IL+1<=maxLen:=by simp only[maxLen];omega
   have hby:(IL+1) * 88<=140737488355328:=by omega
   have h1v:∀ u∈NI,u.oneCell'=true:=by rw[hNI];simp[Value.oneCell']
   have hxl:xs.length=IL * 7:=by rw[HIL.out];exact hinI.length
   have hln:(I.take IL++(⟨nm,⟨0,0,0,⟨#[]⟩⟩⟩:Ins)::I.drop IL).length=IL+1:=by have:=HIL.out;simp;omega
   have HEND:=Hy (fun (g5 cap5:Nat) (w5:World) (ho':w5.ownsRow (w.heap.size+3) 178 7 (.slice (some ⟨g5,0,none⟩) (IL+1) cap5) (IL+1) (xs++NI)) (hg:(w4.alloc (.cells #[.string nm,.int .i64 0,.int .i64 0,.int .i64 0,.string ⟨#[]⟩,.slice none 0 0,.bool false] 178)).grownBy w5 (Value.ownBlock (.slice Ai IL ci))) (hnew:Value.ownBlock (.slice (some ⟨g5,0,none⟩) (IL+1) cap5)=Value.ownBlock (.slice Ai IL ci)∨∀ k,Value.ownBlock (.slice (some ⟨g5,0,none⟩) (IL+1) cap5)=some k->(w4.alloc (.cells #[.string nm,.int .i64 0,.int .i64 0,.int .i64 0,.string ⟨#[]⟩,.slice none 0 0,.bool false] 178)).heap.size<=k) =>
    show FoS (w5.setCell ⟨w.heap.size+1,1,none⟩ (.slice (some ⟨g5,0,none⟩) (IL+1) cap5)) (w.heap.size+1) (w.heap.size+3) (fun g t cs=>(g=w.heap.size∧t=59∧cs=#[.string ch,.int .i64 sr,.int .i64 tm,.slice A n c])∨(g=w.heap.size+2∧t=9∧cs=#[.string nm])) (.string mn) (.slice Af nf cf) (.slice As ns cs) (.slice Ap np cp) (.slice (some ⟨g5,0,none⟩) (IL+1) cap5) (.slice (some ⟨g',0,none⟩) ((S k).2.length+1) cap') (I.take IL++⟨nm,⟨0,0,0,⟨#[]⟩⟩⟩::I.drop IL) (S (k+1)).2∧Ext w (w5.setCell ⟨w.heap.size+1,1,none⟩ (.slice (some ⟨g5,0,none⟩) (IL+1) cap5))∧Blk (w5.setCell ⟨w.heap.size+1,1,none⟩ (.slice (some ⟨g5,0,none⟩) (IL+1) cap5)) w1.heap.size 66 #[.string on,.int .i64 o1,.int .i64 o2,.int .i64 o3,.string oa,.string os,.slice A1 ol c1,.bool ow,.int .i64 kk,.string nn,.string xx,.slice A2 m2 c2,.int .i64 ob,.int .i64 ot,.int .i64 og,.bool oh,.bool ou,.bool ok]∧Blk w5 (w.heap.size+1) 96 #[.string mn,.slice Ai IL ci,.slice Af nf cf,.slice As ns cs,.slice Ap np cp] from
    ⟨HFS6.ins (x:=⟨nm,⟨0,0,0,⟨#[]⟩⟩⟩) (A:=none) (m:=0) (c:=0) (bb:=false) (by rw[<-HIL.out];exact hown) hinI hi9 (by rw[<-HIL.out,List.take_of_length_le (by omega),List.drop_eq_nil_of_le (by omega),List.append_nil];exact (by rw[hNI] at ho';exact ho')) hg hnew,
      (((hxr4.trans hxi).grown hown (by omega) hg)).setCell (Nat.le_succ _) _,
      ((HQ4.out.ext hxi).grownR hg (fun e=>by have:=(HGE2.out _ (.inl e.symm)).2;omega)).far (by show w1.heap.size≠w.heap.size+1;omega) _,
      HFS6.blk.grownR hg (fun e=>by have:=(HFS6.ge (.inl e.symm)).1;omega)⟩)
   have eM:=HF5.out.blk.cell;have lM:=HF5.out.blk.lt
   have eN:=(HF5.out.kp _ _ _ (.inr ⟨rfl,rfl,rfl⟩)).cell;have lN:=(HF5.out.kp _ _ _ (.inr ⟨rfl,rfl,rfl⟩)).lt
   have HLN:=Hy hln;have HXL:=Hy hxl
   clear HFS6 hinI bI hxi hNI hln hxl
   go_wp2_with (first|(at_builtin;refine wpList_append_lies _ rfl _ _ 92 rfl (w.heap.size+3) 178 IJ _ 7 88 Tryz.underlying92 hJ0 hj0 hj1 hj2 (by rfl) (by decide) _ IL xs rfl hown ⟨w4.heap.size,0,none⟩ 1 1 NI rfl hnl hnsI h1v (by decide) h63 hby hB6 (w4.alloc (.cells #[.string nm,.int .i64 0,.int .i64 0,.int .i64 0,.string ⟨#[]⟩,.slice none 0 0,.bool false] 178)).heap.size rfl ?_;intro g5 cap5 w5 hown5 hgr5 hnew5 hlt5;(obtain⟨HFS7,hx7,HQ7,HB7⟩:=HEND.out _ _ w5 hown5 hgr5 (hnew5.elim (fun h=>.inl h.symm) fun h=>.inr fun k hk=>by rw[<-h];exact Nat.le_of_eq (Option.some.inj hk)));(have HF7:=Hy HFS7);(obtain⟨u1,u2,u3,u4,z1,z2,z3,z4,hfz,hBg,lg⟩:=HFS7.room (i:=IL) (by rw[HLN.out];omega));(have eM5:=HB7.cell);(have lM5:=HB7.lt);(have fM5:=HB7.free);(have eM6:=(HB7.set 1 (.slice (some ⟨g5,0,none⟩) (IL+1) cap5)).cell);(have lM6:=(HB7.set 1 (.slice (some ⟨g5,0,none⟩) (IL+1) cap5)).lt);(have eQ7:=HQ7.cell);(have lQ7:=HQ7.lt);clear hown hown5 hgr5 hnew5 hnsI h1v h63 hby hB6 HFS7 HB7 HQ7 eM eN))
   have HFS8:=HF7.out.setv (g:=g5) (cv:=cap5) (by rw[HLN.out]) IL (by rw[HLN.out];omega) ⟨o1,o2,o3,oa⟩
   rw[set_mid hi9] at HFS8
   have hput:Put I (I.take IL++⟨nm,⟨o1,o2,o3,oa⟩⟩::I.drop IL) nm ⟨o1,o2,o3,oa⟩:=put_ins _ hi9 (fun j hj=>HBEL.out j (by omega))
   have hx8:=(((hx7.setCell (p:=⟨g5,IL * 7+1,none⟩) (by show w.heap.size<=g5;omega) (.int .i64 o1)).setCell (p:=⟨g5,IL * 7+2,none⟩) (by show w.heap.size<=g5;omega) (.int .i64 o2)).setCell (p:=⟨g5,IL * 7+3,none⟩) (by show w.heap.size<=g5;omega) (.int .i64 o3)).setCell (p:=⟨g5,IL * 7+4,none⟩) (by show w.heap.size<=g5;omega) (.string oa)
   have hln2:(I.take IL++(⟨nm,⟨o1,o2,o3,oa⟩⟩:Ins)::I.drop IL).length=IL+1:=by have:=HIL.out;simp;omega
   go_roundw
   case rel =>
    refine⟨k+1,I.take IL++⟨nm,⟨o1,o2,o3,oa⟩⟩::I.drop IL,some ⟨g5,0,none⟩,cap5,_,hk1,rfl,by go_num,?_,?_,⟨hput.small HIO.out.small HNM.out HOV.out.2,hput.ok HIO.out.ok HOV.out.1,by have:=HIO.out.len;rw[hln2];omega⟩,hx8⟩
    ·rw[hln2];exact HFS8
    ·exact Hy (by rw[HSS.out];exact hput.was)
   case measure=>simp[intOf];omega
  ·rw[hf]
   have hi4:i2 < I.length:=by rw[<-HIL.out];exact hi2
   rw[insP_at hi4] at hyes
   have hnm:I[i2].name.toList=nm.toList:=by simpa using hyes
   have HBEL:=Hy (show ∀ j (hj:j < i2) (hjl:j < I.length),I[j].name.toList≠nm.toList from fun j hj hjl=>by
    have:=hbefore j hj
    rw[insP_at hjl] at this
    simpa using this)
   clear hyes hbefore hf HFC
   obtain⟨g,rfl⟩:=HBF.out (by omega)
   obtain⟨u1,u2,u3,u4,z1,z2,z3,z4,hfz,hBg,lg⟩:=HF5.out.room hi4
   have HF7:=Hy (HF5.out.setv (g:=g) (cv:=ci) (by rw[HIL.out]) i2 hi4 ⟨o1,o2,o3,oa⟩)
   have HX6:=Hy ((((hxr4.setCell (p:=⟨g,i2 * 7+1,none⟩) (by show w.heap.size<=g;omega) (.int .i64 o1)).setCell (p:=⟨g,i2 * 7+2,none⟩) (by show w.heap.size<=g;omega) (.int .i64 o2)).setCell (p:=⟨g,i2 * 7+3,none⟩) (by show w.heap.size<=g;omega) (.int .i64 o3)).setCell (p:=⟨g,i2 * 7+4,none⟩) (by show w.heap.size<=g;omega) (.string oa))
   have HPUT:=Hy (show Put I (I.set i2 ⟨I[i2].name,⟨o1,o2,o3,oa⟩⟩) nm ⟨o1,o2,o3,oa⟩ from put_set _ hi4 hnm (fun j hj=>HBEL.out j hj (by omega)))
   have eM:=HF5.out.blk.cell;have lM:=HF5.out.blk.lt;have eQ:=HQ4.out.cell;have lQ:=HQ4.out.lt
   have hiL:i2 < IL:=hi2
   clear HF5 HQ4 HBEL HBF HGE2
   go_wp2_with fail
   go_roundw
   case rel =>
    refine⟨k+1,I.set i2 ⟨I[i2].name,⟨o1,o2,o3,oa⟩⟩,some ⟨g,0,none⟩,ci,_,hk1,rfl,by go_num,?_,?_,⟨HPUT.out.small HIO.out.small HNM.out HOV.out.2,HPUT.out.ok HIO.out.ok HOV.out.1,by have:=HIO.out.len;rw[List.length_set];omega⟩,HX6.out⟩
    ·rw[List.length_set,<-HIL.out];exact HF7.out
    ·exact Hy (by rw[HSS.out];exact HPUT.out.was)
   case measure=>simp[intOf];omega
end Go.Proofs.YtmnafaaijglnfaaGreatDoor
