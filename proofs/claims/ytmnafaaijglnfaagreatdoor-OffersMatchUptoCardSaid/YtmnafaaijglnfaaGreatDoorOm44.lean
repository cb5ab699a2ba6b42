/- Contract of feed.Offered. (Printed by gen/omn.py.) -/
import Derived.Test.YtmnafaaijglnfaaGreatDoorOm34
import Derived.Test.YtmnafaaijglnfaaGreatDoorOm43
namespace Go.Proofs.YtmnafaaijglnfaaGreatDoor
open Go.RowKit
theorem clone_at {l:List Of} {A:Option Addr} {w:World} (hr:RdO w A l) (hs:∀ o∈l,SmallO o) (ho:∀ o∈l,ofErr o=0):∀ i (hi:i < l.length),∃ b i0,A=some ⟨b,i0,none⟩∧∃ A1 c1 kk nn xx A2 m2 c2,∀ W,Ext w W->OfRow W b (i0+i * 18) l[i] A1 c1 kk nn xx A2 m2 c2∧Calls Tryz.prog 109 #[ofV l[i] A1 c1 kk nn xx A2 m2 c2] W fun e w'=>∃ A' c' k' n' x' B' m' d',e=.returned (ofV l[i] A' c' k' n' x' B' m' d')∧OfIn (fun b=>W.heap.size<=b) w' l[i] A' k' n' x' B' m' d'∧Ext W w':=fun i hi=>by
 obtain⟨b,i0,e,hX⟩:=hr (fun e=>by rw[e] at hi;exact absurd hi (Nat.not_lt_zero _))
 obtain⟨A1,c1,kk,nn,xx,A2,m2,c2,hrow⟩:=hX i hi
 refine⟨b,i0,e,A1,c1,kk,nn,xx,A2,m2,c2,fun W h=>⟨hrow.ext h,?_⟩⟩
 have hc:cnt l[i].wh<=100:=check_cntM (ofErr_parts (ho _ (List.getElem_mem hi))).2.2.2.2.1
 exact cloneO_any l[i] A1 c1 kk nn xx A2 m2 c2 W (hrow.has.ext h) (hs _ (List.getElem_mem hi)) (by omega)
def ofdE (ch:ByteArray) (sr tm:Int) (l:List Of) (mc:Mac) (nm:ByteArray) (t:Int):Int:=firstI [feErr ch sr tm l,matErr mc t,nmErr nm]
def ofdR (l:List Of) (mc:Mac) (nm:ByteArray) (t:Int):Int × Int:=offR l (fun o=>fitM o mc t) nm.toList
def ofdO (e:Int) (l:List Of) (R:Int × Int):Of:=if e=0 then offO l R else zeroO
def ofdY (e:Int) (R:Int × Int):Int:=if e=0 then R.2 else 0
theorem ofd_fe {a b q:Int} (h:¬ a=0):firstI [a,b,q]=a:=by simp[firstI,h]
theorem ofd_me {a b q:Int} (h:a=0) (h2:¬ b=0):firstI [a,b,q]=b:=by simp[firstI,h,h2]
theorem ofd_nm {a b q:Int} (h:a=0) (h2:b=0):firstI [a,b,q]=q:=by
 by_cases h3:q=0<;>simp[firstI,h,h2,h3]
set_option maxHeartbeats 8000000 in
set_option maxRecDepth 100000 in
theorem Offered_any (ch:ByteArray) (sr tm:Int) (l:List Of) (A:Option Addr) (n c:Nat) (mc:Mac) (A':Option Addr) (n' c':Nat) (Af:Option Addr) (nf cf:Nat) (As:Option Addr) (ns cs:Nat) (Ap:Option Addr) (np cp:Nat) (nm:ByteArray) (t:Int) (w:World) (hg:GoodN w) (hn:l.length=n) (hr:RdO w A l) (hs:∀ o∈l,SmallO o) (hch:ch.size<=2097152) (hl:n<=2097152) (hm:MacIn w mc A' n' Af nf As ns Ap np cp) (hsm:SmallM mc) (hnm:nm.size<=2097152) :
 Calls Tryz.prog 64 #[.agg #[.string ch,.int .i64 sr,.int .i64 tm,.slice A n c],macV mc A' n' c' Af nf cf As ns cs Ap np cp,.string nm,.int .i64 t] w fun e w'=>∃ A c kk n x A2 m c2,e=.returned (.tuple #[ofV (ofdO (ofdE ch sr tm l mc nm t) l (ofdR l mc nm t)) A c kk n x A2 m c2,.int .i64 (ofdY (ofdE ch sr tm l mc nm t) (ofdR l mc nm t)),.int .i64 (ofdE ch sr tm l mc nm t)])∧OfIn AnyB w' (ofdO (ofdE ch sr tm l mc nm t) l (ofdR l mc nm t)) A kk n x A2 m c2∧Ext w w':=by
 have CF:=Hy (fun W (h:Ext w W)=>CheckF_any ch sr tm l A n c W (hg.ext h) hn (hr.ext h) hs hch hl)
 have CM:=Hy (fun W (h:Ext w W)=>machineFault_any mc A' n' c' Af nf cf As ns cs Ap np cp t W (hg.ext h) (hm.ext h) hsm)
 have CN:=Hy (fun W=>IsName_any nm W hnm)
 have CO:=Hy (fun (h1:feErr ch sr tm l=0) (h2:matErr mc t=0) W (h:Ext w W)=>offered_any ch sr tm l A n c mc A' n' c' Af nf cf As ns cs Ap np cp nm t W (hg.ext h) hn (hr.ext h) hs (fd_off (f:=⟨ch,sr,tm,l⟩) h1) hl (hm.ext h) hsm (MacOk.of (mat_zero h2).1) (mat_zero h2).2.1 (mat_zero h2).2.2)
 have HROW:=Hy (fun (h1:feErr ch sr tm l=0)=>clone_at hr hs (fd_off (f:=⟨ch,sr,tm,l⟩) h1))
 have HRC:=Hy (offR_cases l (fun o=>fitM o mc t) nm.toList)
 have HN:=Hy hn
 have HA:=Hy (show ¬ feErr ch sr tm l=0->ofdE ch sr tm l mc nm t=feErr ch sr tm l from fun h=>ofd_fe h)
 have HB:=Hy (show feErr ch sr tm l=0->¬ matErr mc t=0->ofdE ch sr tm l mc nm t=matErr mc t from fun h h2=>ofd_me h h2)
 have HC:=Hy (show feErr ch sr tm l=0->matErr mc t=0->nameL (bs nm)=false->ofdE ch sr tm l mc nm t=5 from fun h h2 h3=>(ofd_nm h h2).trans (by unfold nmErr;rw[h3];rfl))
 have HD:=Hy (show feErr ch sr tm l=0->matErr mc t=0->nameL (bs nm)=true->ofdE ch sr tm l mc nm t=0 from fun h h2 h3=>(ofd_nm h h2).trans (by unfold nmErr;rw[h3];rfl))
 clear hg hn hr hs hch hl hm hsm hnm
 unfold ofdR
 generalize offR l (fun o=>fitM o mc t) nm.toList=R at *
 generalize ofdE ch sr tm l mc nm t=E at *
 generalize feErr ch sr tm l=FE at *
 generalize matErr mc t=ME at *
 generalize nameL (bs nm)=q at *
 obtain⟨mn,mi,mf,ms,mp⟩:=mc
 dsimp only[macV] at *
 have BF:Blk (((w.alloc (.cells #[.string ch,.int .i64 sr,.int .i64 tm,.slice A n c] 59)).alloc (.cells #[.string mn,.slice A' n' c',.slice Af nf cf,.slice As ns cs,.slice Ap np cp] 96)).alloc (.cells #[.string ⟨#[]⟩,.int .i64 0,.int .i64 0,.int .i64 0,.string ⟨#[]⟩,.string ⟨#[]⟩,.slice none 0 0,.bool false,.int .i64 0,.string ⟨#[]⟩,.string ⟨#[]⟩,.slice none 0 0,.int .i64 0,.int .i64 0,.int .i64 0,.bool false,.bool false,.bool false] 66)) w.heap.size 59 #[.string ch,.int .i64 sr,.int .i64 tm,.slice A n c]:=((Blk.new w 59 #[.string ch,.int .i64 sr,.int .i64 tm,.slice A n c]).alloc _).alloc _
 have BM:Blk (((w.alloc (.cells #[.string ch,.int .i64 sr,.int .i64 tm,.slice A n c] 59)).alloc (.cells #[.string mn,.slice A' n' c',.slice Af nf cf,.slice As ns cs,.slice Ap np cp] 96)).alloc (.cells #[.string ⟨#[]⟩,.int .i64 0,.int .i64 0,.int .i64 0,.string ⟨#[]⟩,.string ⟨#[]⟩,.slice none 0 0,.bool false,.int .i64 0,.string ⟨#[]⟩,.string ⟨#[]⟩,.slice none 0 0,.int .i64 0,.int .i64 0,.int .i64 0,.bool false,.bool false,.bool false] 66)) (w.heap.size+1) 96 #[.string mn,.slice A' n' c',.slice Af nf cf,.slice As ns cs,.slice Ap np cp]:=by
  have:=(Blk.new (w.alloc (.cells #[.string ch,.int .i64 sr,.int .i64 tm,.slice A n c] 59)) 96 #[.string mn,.slice A' n' c',.slice Af nf cf,.slice As ns cs,.slice Ap np cp]).alloc (.cells #[.string ⟨#[]⟩,.int .i64 0,.int .i64 0,.int .i64 0,.string ⟨#[]⟩,.string ⟨#[]⟩,.slice none 0 0,.bool false,.int .i64 0,.string ⟨#[]⟩,.string ⟨#[]⟩,.slice none 0 0,.int .i64 0,.int .i64 0,.int .i64 0,.bool false,.bool false,.bool false] 66)
  rwa [World.size_alloc] at this
 have BR:Blk (((w.alloc (.cells #[.string ch,.int .i64 sr,.int .i64 tm,.slice A n c] 59)).alloc (.cells #[.string mn,.slice A' n' c',.slice Af nf cf,.slice As ns cs,.slice Ap np cp] 96)).alloc (.cells #[.string ⟨#[]⟩,.int .i64 0,.int .i64 0,.int .i64 0,.string ⟨#[]⟩,.string ⟨#[]⟩,.slice none 0 0,.bool false,.int .i64 0,.string ⟨#[]⟩,.string ⟨#[]⟩,.slice none 0 0,.int .i64 0,.int .i64 0,.int .i64 0,.bool false,.bool false,.bool false] 66)) (w.heap.size+2) 66 #[.string ⟨#[]⟩,.int .i64 0,.int .i64 0,.int .i64 0,.string ⟨#[]⟩,.string ⟨#[]⟩,.slice none 0 0,.bool false,.int .i64 0,.string ⟨#[]⟩,.string ⟨#[]⟩,.slice none 0 0,.int .i64 0,.int .i64 0,.int .i64 0,.bool false,.bool false,.bool false]:=by
  have:=Blk.new ((w.alloc (.cells #[.string ch,.int .i64 sr,.int .i64 tm,.slice A n c] 59)).alloc (.cells #[.string mn,.slice A' n' c',.slice Af nf cf,.slice As ns cs,.slice Ap np cp] 96)) 66 #[.string ⟨#[]⟩,.int .i64 0,.int .i64 0,.int .i64 0,.string ⟨#[]⟩,.string ⟨#[]⟩,.slice none 0 0,.bool false,.int .i64 0,.string ⟨#[]⟩,.string ⟨#[]⟩,.slice none 0 0,.int .i64 0,.int .i64 0,.int .i64 0,.bool false,.bool false,.bool false]
  rwa [World.size_alloc,World.size_alloc] at this
 have hx0:Ext w (((w.alloc (.cells #[.string ch,.int .i64 sr,.int .i64 tm,.slice A n c] 59)).alloc (.cells #[.string mn,.slice A' n' c',.slice Af nf cf,.slice As ns cs,.slice Ap np cp] 96)).alloc (.cells #[.string ⟨#[]⟩,.int .i64 0,.int .i64 0,.int .i64 0,.string ⟨#[]⟩,.string ⟨#[]⟩,.slice none 0 0,.bool false,.int .i64 0,.string ⟨#[]⟩,.string ⟨#[]⟩,.slice none 0 0,.int .i64 0,.int .i64 0,.int .i64 0,.bool false,.bool false,.bool false] 66)):=(((Ext.refl w).alloc _).alloc _).alloc _
 have BF:=Hy BF;have BM:=Hy BM;have BR:=Hy BR
 go_enter Tryz.func64,Tryz.ntmps64
 go_upto_region 0 with fail
 go_cut [2,3,4,5,8] (fun s2 s3 s4 s5 s8 wx=>s2=.string nm∧s3=.int .i64 t∧s4=.pointer (some ⟨w.heap.size,0,none⟩)∧s5=.pointer (some ⟨w.heap.size+1,0,none⟩)∧s8=.pointer (some ⟨w.heap.size+2,0,none⟩)∧Hid (Blk wx w.heap.size 59 #[.string ch,.int .i64 sr,.int .i64 tm,.slice A n c])∧Hid (Blk wx (w.heap.size+1) 96 #[.string mn,.slice A' n' c',.slice Af nf cf,.slice As ns cs,.slice Ap np cp])∧Hid (Blk wx (w.heap.size+2) 66 #[.string ⟨#[]⟩,.int .i64 0,.int .i64 0,.int .i64 0,.string ⟨#[]⟩,.string ⟨#[]⟩,.slice none 0 0,.bool false,.int .i64 0,.string ⟨#[]⟩,.string ⟨#[]⟩,.slice none 0 0,.int .i64 0,.int .i64 0,.int .i64 0,.bool false,.bool false,.bool false])∧Ext w wx)
 case first=>as_aux_lemma =>
  go_wp2
  go_meet
  case rel=>exact⟨rfl,rfl,rfl,rfl,rfl,BF,BM,BR,hx0⟩
 case rest =>
 clear BF BM BR hx0
 obtain⟨rfl,rfl,rfl,rfl,rfl,BF,BM,BR,hx0⟩:=hcut
 obtain⟨W0,rfl⟩:∃ W0:World,W0=wc:=⟨_,rfl⟩
 have eF:=BF.out.cell;have lF:=BF.out.lt
 go_wp2_with fail
 refine (CF.out _ hx0).mono ?_
 rintro e w1 ⟨rfl,hx1⟩
 have BM1:=Hy (BM.out.ext hx1);have BR1:=Hy (BR.out.ext hx1);have BF1:=Hy (BF.out.ext hx1)
 have hxa:=hx0.trans hx1
 clear eF lF BM BR BF
 by_cases hfe:FE=0
 rotate_left
 ·as_aux_lemma =>
  obtain rfl:E=FE:=HA.out hfe
  have HO:=Hy (show ofdO E l R=zeroO from if_neg hfe)
  have HY:=Hy (show ofdY E R=0 from if_neg hfe)
  have hne:(E==0)=false:=by rw[beq_eq_false_iff_ne];exact hfe
  clear hfe
  have bR:=BR1.out
  have LS:(storeVar 66 ⟨w.heap.size+2,0,none⟩ (.agg #[.string ⟨#[]⟩,.int .i64 0,.int .i64 0,.int .i64 0,.string ⟨#[]⟩,.string ⟨#[]⟩,.slice none 0 0,.bool false,.int .i64 0,.string ⟨#[]⟩,.string ⟨#[]⟩,.slice none 0 0,.int .i64 0,.int .i64 0,.int .i64 0,.bool false,.bool false,.bool false])).run Tryz.prog w1=.ok () (w1.setRow (w.heap.size+2) #[.string ⟨#[]⟩,.int .i64 0,.int .i64 0,.int .i64 0,.string ⟨#[]⟩,.string ⟨#[]⟩,.slice none 0 0,.bool false,.int .i64 0,.string ⟨#[]⟩,.string ⟨#[]⟩,.slice none 0 0,.int .i64 0,.int .i64 0,.int .i64 0,.bool false,.bool false,.bool false]):=store_offer bR rfl
  have HE:=Hy (setRow_extC (cs:=#[.string ⟨#[]⟩,.int .i64 0,.int .i64 0,.int .i64 0,.string ⟨#[]⟩,.string ⟨#[]⟩,.slice none 0 0,.bool false,.int .i64 0,.string ⟨#[]⟩,.string ⟨#[]⟩,.slice none 0 0,.int .i64 0,.int .i64 0,.int .i64 0,.bool false,.bool false,.bool false]) bR)
  have HRR:=Hy (setRow_blk (cs:=#[.string ⟨#[]⟩,.int .i64 0,.int .i64 0,.int .i64 0,.string ⟨#[]⟩,.string ⟨#[]⟩,.slice none 0 0,.bool false,.int .i64 0,.string ⟨#[]⟩,.string ⟨#[]⟩,.slice none 0 0,.int .i64 0,.int .i64 0,.int .i64 0,.bool false,.bool false,.bool false]) bR)
  have F2:=Hy (ExtC.ext hxa HE.out (fun i hi=>by omega))
  have lR:=bR.lt
  go_wp2_with (first|refine wpList_store_at rfl _ _ _ rfl _ rfl _ rfl _ LS ?_)
  refine bodyPost_ret (results_cell3 (T:=66) rfl rfl rfl rfl (load_blk HRR.out rfl)) rfl ?_
  rw[HO.out,HY.out]
  exact⟨none,0,0,⟨#[]⟩,⟨#[]⟩,none,0,0,rfl,OfIn_zero _,F2.out⟩
 have hfe2:=Hy hfe
 subst hfe
 have eM:=BM1.out.cell;have lM:=BM1.out.lt
 go_wp2_with fail
 refine (CM.out _ hxa).mono ?_
 rintro e w2 ⟨rfl,hx2⟩
 have BR2:=Hy (BR1.out.ext hx2);have BF2:=Hy (BF1.out.ext hx2);have BM2:=Hy (BM1.out.ext hx2)
 have hxb:=hxa.trans hx2
 clear eM lM BM1 BR1 BF1
 by_cases hme:ME=0
 rotate_left
 ·as_aux_lemma =>
  obtain rfl:E=ME:=HB.out (by trivial) hme
  have HO:=Hy (show ofdO E l R=zeroO from if_neg hme)
  have HY:=Hy (show ofdY E R=0 from if_neg hme)
  have hne:(E==0)=false:=by rw[beq_eq_false_iff_ne];exact hme
  clear hme
  have bR:=BR2.out
  have LS:(storeVar 66 ⟨w.heap.size+2,0,none⟩ (.agg #[.string ⟨#[]⟩,.int .i64 0,.int .i64 0,.int .i64 0,.string ⟨#[]⟩,.string ⟨#[]⟩,.slice none 0 0,.bool false,.int .i64 0,.string ⟨#[]⟩,.string ⟨#[]⟩,.slice none 0 0,.int .i64 0,.int .i64 0,.int .i64 0,.bool false,.bool false,.bool false])).run Tryz.prog w2=.ok () (w2.setRow (w.heap.size+2) #[.string ⟨#[]⟩,.int .i64 0,.int .i64 0,.int .i64 0,.string ⟨#[]⟩,.string ⟨#[]⟩,.slice none 0 0,.bool false,.int .i64 0,.string ⟨#[]⟩,.string ⟨#[]⟩,.slice none 0 0,.int .i64 0,.int .i64 0,.int .i64 0,.bool false,.bool false,.bool false]):=store_offer bR rfl
  have HE:=Hy (setRow_extC (cs:=#[.string ⟨#[]⟩,.int .i64 0,.int .i64 0,.int .i64 0,.string ⟨#[]⟩,.string ⟨#[]⟩,.slice none 0 0,.bool false,.int .i64 0,.string ⟨#[]⟩,.string ⟨#[]⟩,.slice none 0 0,.int .i64 0,.int .i64 0,.int .i64 0,.bool false,.bool false,.bool false]) bR)
  have HRR:=Hy (setRow_blk (cs:=#[.string ⟨#[]⟩,.int .i64 0,.int .i64 0,.int .i64 0,.string ⟨#[]⟩,.string ⟨#[]⟩,.slice none 0 0,.bool false,.int .i64 0,.string ⟨#[]⟩,.string ⟨#[]⟩,.slice none 0 0,.int .i64 0,.int .i64 0,.int .i64 0,.bool false,.bool false,.bool false]) bR)
  have F2:=Hy (ExtC.ext hxb HE.out (fun i hi=>by omega))
  have lR:=bR.lt
  go_wp2_with (first|refine wpList_store_at rfl _ _ _ rfl _ rfl _ rfl _ LS ?_)
  refine bodyPost_ret (results_cell3 (T:=66) rfl rfl rfl rfl (load_blk HRR.out rfl)) rfl ?_
  rw[HO.out,HY.out]
  exact⟨none,0,0,⟨#[]⟩,⟨#[]⟩,none,0,0,rfl,OfIn_zero _,F2.out⟩
 subst hme
 go_wp2_with fail
 refine (CN.out _).mono ?_
 rintro e w3 ⟨rfl,rfl⟩
 cases q
 ·as_aux_lemma =>
  obtain rfl:E=5:=HC.out (by trivial) (by trivial) (by trivial)
  have HO:=Hy (show ofdO 5 l R=zeroO from if_neg (by decide))
  have HY:=Hy (show ofdY 5 R=0 from if_neg (by decide))
  have bR:=BR2.out
  have LS:(storeVar 66 ⟨w.heap.size+2,0,none⟩ (.agg #[.string ⟨#[]⟩,.int .i64 0,.int .i64 0,.int .i64 0,.string ⟨#[]⟩,.string ⟨#[]⟩,.slice none 0 0,.bool false,.int .i64 0,.string ⟨#[]⟩,.string ⟨#[]⟩,.slice none 0 0,.int .i64 0,.int .i64 0,.int .i64 0,.bool false,.bool false,.bool false])).run Tryz.prog w2=.ok () (w2.setRow (w.heap.size+2) #[.string ⟨#[]⟩,.int .i64 0,.int .i64 0,.int .i64 0,.string ⟨#[]⟩,.string ⟨#[]⟩,.slice none 0 0,.bool false,.int .i64 0,.string ⟨#[]⟩,.string ⟨#[]⟩,.slice none 0 0,.int .i64 0,.int .i64 0,.int .i64 0,.bool false,.bool false,.bool false]):=store_offer bR rfl
  have HE:=Hy (setRow_extC (cs:=#[.string ⟨#[]⟩,.int .i64 0,.int .i64 0,.int .i64 0,.string ⟨#[]⟩,.string ⟨#[]⟩,.slice none 0 0,.bool false,.int .i64 0,.string ⟨#[]⟩,.string ⟨#[]⟩,.slice none 0 0,.int .i64 0,.int .i64 0,.int .i64 0,.bool false,.bool false,.bool false]) bR)
  have HRR:=Hy (setRow_blk (cs:=#[.string ⟨#[]⟩,.int .i64 0,.int .i64 0,.int .i64 0,.string ⟨#[]⟩,.string ⟨#[]⟩,.slice none 0 0,.bool false,.int .i64 0,.string ⟨#[]⟩,.string ⟨#[]⟩,.slice none 0 0,.int .i64 0,.int .i64 0,.int .i64 0,.bool false,.bool false,.bool false]) bR)
  have F2:=Hy (ExtC.ext hxb HE.out (fun i hi=>by omega))
  have lR:=bR.lt
  go_wp2_with (first|refine wpList_store_at rfl _ _ _ rfl _ rfl _ rfl _ LS ?_)
  refine bodyPost_ret (results_cell3 (T:=66) rfl rfl rfl rfl (load_blk HRR.out rfl)) rfl ?_
  rw[HO.out,HY.out]
  exact⟨none,0,0,⟨#[]⟩,⟨#[]⟩,none,0,0,rfl,OfIn_zero _,F2.out⟩
 obtain rfl:E=0:=HD.out (by trivial) (by trivial) (by trivial)
 have eF:=BF2.out.cell;have lF:=BF2.out.lt;have eM:=BM2.out.cell;have lM:=BM2.out.lt
 obtain⟨RI,RY⟩:=R
 dsimp only at *
 have co:=CO.out (by trivial) (by trivial)
 go_wp2_with fail
 refine (co _ hxb).mono ?_
 rintro e w3 ⟨rfl,hx3⟩
 have hxc:=hxb.trans hx3
 have BR3:=Hy (BR2.out.ext hx3);have BF3:=Hy (BF2.out.ext hx3)
 clear eF lF eM lM BF2 BM2 BR2 co
 rcases HRC.out with ⟨h1,h2,h3⟩|⟨i,hi,h2,h3⟩
 ·as_aux_lemma =>
  obtain rfl:RI=-1:=h2
  have HO:=Hy (show ofdO 0 l (-1,RY)=zeroO from (if_pos rfl).trans (if_neg (show ¬ (0:Int)<=-1 by decide)))
  have HY:=Hy (show ofdY 0 (-1,RY)=RY from if_pos rfl)
  have bR:=BR3.out
  have LS:(storeVar 66 ⟨w.heap.size+2,0,none⟩ (.agg #[.string ⟨#[]⟩,.int .i64 0,.int .i64 0,.int .i64 0,.string ⟨#[]⟩,.string ⟨#[]⟩,.slice none 0 0,.bool false,.int .i64 0,.string ⟨#[]⟩,.string ⟨#[]⟩,.slice none 0 0,.int .i64 0,.int .i64 0,.int .i64 0,.bool false,.bool false,.bool false])).run Tryz.prog w3=.ok () (w3.setRow (w.heap.size+2) #[.string ⟨#[]⟩,.int .i64 0,.int .i64 0,.int .i64 0,.string ⟨#[]⟩,.string ⟨#[]⟩,.slice none 0 0,.bool false,.int .i64 0,.string ⟨#[]⟩,.string ⟨#[]⟩,.slice none 0 0,.int .i64 0,.int .i64 0,.int .i64 0,.bool false,.bool false,.bool false]):=store_offer bR rfl
  have HE:=Hy (setRow_extC (cs:=#[.string ⟨#[]⟩,.int .i64 0,.int .i64 0,.int .i64 0,.string ⟨#[]⟩,.string ⟨#[]⟩,.slice none 0 0,.bool false,.int .i64 0,.string ⟨#[]⟩,.string ⟨#[]⟩,.slice none 0 0,.int .i64 0,.int .i64 0,.int .i64 0,.bool false,.bool false,.bool false]) bR)
  have HRR:=Hy (setRow_blk (cs:=#[.string ⟨#[]⟩,.int .i64 0,.int .i64 0,.int .i64 0,.string ⟨#[]⟩,.string ⟨#[]⟩,.slice none 0 0,.bool false,.int .i64 0,.string ⟨#[]⟩,.string ⟨#[]⟩,.slice none 0 0,.int .i64 0,.int .i64 0,.int .i64 0,.bool false,.bool false,.bool false]) bR)
  have F2:=Hy (ExtC.ext hxc HE.out (fun i hi=>by omega))
  have lR:=bR.lt
  go_wp2_with (first|refine wpList_store_at rfl _ _ _ rfl _ rfl _ rfl _ LS ?_)
  refine bodyPost_ret (results_cell3 (T:=66) rfl rfl rfl rfl (load_blk HRR.out rfl)) rfl ?_
  rw[HO.out,HY.out]
  exact⟨none,0,0,⟨#[]⟩,⟨#[]⟩,none,0,0,rfl,OfIn_zero _,F2.out⟩
 ·as_aux_lemma =>
  obtain rfl:RI=(i:Int):=h2
  obtain rfl:RY=0:=h3
  have HOO:ofdO 0 l ((i:Int),0)=l[i]:=by
   unfold ofdO
   rw[if_pos rfl]
   unfold offO
   rw[if_pos (show (0:Int)<=(i:Int) by omega)]
   show l.getD i zeroO=l[i]
   exact getD_atO hi
  have HO:=Hy HOO
  have HY:=Hy (show ofdY 0 ((i:Int),0)=0 from if_pos rfl)
  clear HOO
  obtain⟨b,i0,rfl,A1,c1,kk,nn,xx,A2,m2,c2,hX⟩:=HROW.out (by trivial) i hi
  obtain⟨hrow,CL⟩:=hX w3 hxc
  have LD:=load_row hrow
  have lx:=lt_of_cell hrow.r0
  have hin:i < n:=by rw[<-HN.out];exact hi
  have CLO:=Hy CL
  clear hX hrow CL HROW HRC CO CF CM CN HA HB HC HD
  generalize l[i]=o at *
  obtain⟨on,⟨o1,o2,o3,oa⟩,os,of_,ow,od,ob,ot,og,oh,ou,ok⟩:=o
  dsimp only[ofV] at *
  generalize hol:of_.length=ol at *
  have eF:=BF3.out.cell;have lF:=BF3.out.lt
  go_wp2_with (first|refine wpList_load_at rfl _ _ rfl _ rfl _ LD ?_)
  refine CLO.out.mono ?_
  rintro e w4 ⟨A1,c1,kk,nn,xx,A2,m2,c2,rfl,HOI,hx4⟩
  have hxd:=hxc.trans hx4
  have bR:=BR3.out.ext hx4
  have HOI:=Hy HOI
  have lR3:=BR3.out.lt
  clear eF lF LD lx
  have LS:(storeVar 66 ⟨w.heap.size+2,0,none⟩ (.agg #[.string on,.int .i64 o1,.int .i64 o2,.int .i64 o3,.string oa,.string os,.slice A1 ol c1,.bool ow,.int .i64 kk,.string nn,.string xx,.slice A2 m2 c2,.int .i64 ob,.int .i64 ot,.int .i64 og,.bool oh,.bool ou,.bool ok])).run Tryz.prog w4=.ok () (w4.setRow (w.heap.size+2) #[.string on,.int .i64 o1,.int .i64 o2,.int .i64 o3,.string oa,.string os,.slice A1 ol c1,.bool ow,.int .i64 kk,.string nn,.string xx,.slice A2 m2 c2,.int .i64 ob,.int .i64 ot,.int .i64 og,.bool oh,.bool ou,.bool ok]):=store_offer bR rfl
  have HE:=Hy (setRow_extC (cs:=#[.string on,.int .i64 o1,.int .i64 o2,.int .i64 o3,.string oa,.string os,.slice A1 ol c1,.bool ow,.int .i64 kk,.string nn,.string xx,.slice A2 m2 c2,.int .i64 ob,.int .i64 ot,.int .i64 og,.bool oh,.bool ou,.bool ok]) bR)
  have HRR:=Hy (setRow_blk (cs:=#[.string on,.int .i64 o1,.int .i64 o2,.int .i64 o3,.string oa,.string os,.slice A1 ol c1,.bool ow,.int .i64 kk,.string nn,.string xx,.slice A2 m2 c2,.int .i64 ob,.int .i64 ot,.int .i64 og,.bool oh,.bool ou,.bool ok]) bR)
  have F2:=Hy (ExtC.ext hxd HE.out (fun i hi=>by omega))
  have lR:=bR.lt
  go_wp2_with (first|refine wpList_store_at rfl _ _ _ rfl _ rfl _ rfl _ LS ?_)
  refine bodyPost_ret (results_cell3 (T:=66) rfl rfl rfl rfl (load_blk HRR.out rfl)) rfl ?_
  rw[HO.out,HY.out]
  exact⟨A1,c1,kk,nn,xx,A2,m2,c2,by (dsimp only[ofV];rw[hol];first|done|rfl),HOI.out.keep (fun _ _ _=>trivial) (fun b' o' v' hb hc=>HE.out.cell (fun e=>by have hb:w3.heap.size<=b':=hb;omega) hc),F2.out⟩
end Go.Proofs.YtmnafaaijglnfaaGreatDoor
