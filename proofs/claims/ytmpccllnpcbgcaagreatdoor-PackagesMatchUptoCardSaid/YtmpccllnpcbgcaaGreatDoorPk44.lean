/- Contract of outref2.DefaultsOf: plain part, its closure. Contract of outref2.DefaultsOf. slices.Clone over items, steps, conditions. (Printed by gen/plclone.py.) Contract of pack.cloneCond. The cells of steps in a row of the call's own. What a right package gives, for the reference's Allowed and Defaults. slices.EqualFunc over no needs, no moves. outref2.SamePackage's part at equal components. slices.EqualFunc over one component and itself. A component that was made anew, in memory (for pack.cloneComponent). outref2.SamePackage at two packages of one component, the same one. outlaw2.samePart at a component and itself. The law's closure: where a component of a name is. -/
import Derived.Test.YtmpccllnpcbgcaaGreatDoorPk43
import Derived.Test.YtmpccllnpcbgcaaGreatDoorPk42
namespace Go.Proofs.YtmpccllnpcbgcaaGreatDoor
section
open Go.RowKit
theorem markL_filter (l:List Cmp) (V:Nat->Bool) (q:ByteArray->Bool):(markL l V).filter q=markL l fun i=>V i&&q (l.getD i zeroP).name:=by
 unfold markL markK
 rw[List.filter_flatMap]
 refine congrArg (fun f=>(List.range l.length).flatMap f) (funext fun i=>?_)
 dsimp only
 by_cases hv:V i=true
 ·by_cases hq:q (l.getD i zeroP).name=true
  ·rw[if_pos hv,if_pos (by rw[hv,hq];rfl),List.filter_cons,if_pos hq,List.filter_nil]
  ·rw[if_pos hv,if_neg (by rw[hv,Bool.true_and];exact hq),List.filter_cons,if_neg hq,List.filter_nil]
 ·rw[if_neg hv,if_neg (by rw[Bool.and_eq_true];exact fun h=>hv h.1),List.filter_nil]
theorem alw_lead {l:List Cmp} {H:Nat->Bool} (hnd:(l.map Cmp.name).Nodup) {i j:Nat} (hi:i < l.length) (hj:j < l.length) (ha:alwV l H j=true) (hl:Leads l l[j].name l[i].name):alwV l H i=true:=by
 have hh:∀ k (hk:k < l.length) x,hasB l (l.getD k zeroP).needs x=true↔Leads l l[k].name x:=fun k hk x=>by
  rw[getD_cm hk,hasB_iff,leads_needs,needsOf_at hk hnd]
 unfold alwV alwU at ha ⊢
 rw[Bool.and_eq_true,List.all_eq_true] at ha ⊢
 have key:∀ m (hm:m < l.length),Leads l l[j].name l[m].name->H m=true:=fun m hm h=>by
  have:=ha.2 m (List.mem_range.2 hm)
  rw[getD_cm hm,(hh j hj _).2 h] at this
  simpa using this
 refine⟨key i hi hl,fun m hm=>?_⟩
 have hm:=List.mem_range.1 hm
 rw[getD_cm hm]
 cases e:hasB l (l.getD i zeroP).needs l[m].name with
 | false=>rfl
 | true =>
   rw[key m hm (hl.trans ((hh i hi _).1 e))]
   rfl
theorem dfl_alw {l:List Cmp} {H:Nat->Bool} (hnd:(l.map Cmp.name).Nodup) {i:Nat} (hi:i < l.length) (h:dflV l H i=true):alwV l H i=true:=by
 unfold dflV at h
 rw[hasB_iff] at h
 rcases h with h|⟨a,h,hl⟩
 ·have:=(markK_name hnd hi).1 h
  unfold dflS at this
  rw[Bool.and_eq_true] at this
  exact this.1
 ·obtain⟨j,hj,hs,rfl⟩:=markK_mem.1 h
  unfold dflS at hs
  rw[Bool.and_eq_true] at hs
  rw[getD_cm hi,getD_cm hj] at hl
  exact alw_lead hnd hi hj hs.1 hl
theorem defaultsOf_eq {l:List Cmp} {H:Nat->Bool} (hnd:(l.map Cmp.name).Nodup) {M:List ByteArray} (hM:∀ x,x∈M↔GatK l (dflS l H) l.length x):((markL l (alwV l H)).filter fun x=>!!decide (bs x∈M.map bs))=markL l (dflV l H):=by
 rw[markL_filter]
 refine markL_congr fun i hi=>?_
 rw[Bool.not_not,Bool.eq_iff_iff,Bool.and_eq_true,decide_eq_true_eq,mem_bs,hM,gat_has]
 have e:Has l (markK l (dflS l H) l.length) (l.getD i zeroP).name↔dflV l H i=true:=by unfold dflV;rw[hasB_iff]
 rw[e]
 exact⟨fun h=>h.2,fun h=>⟨dfl_alw hnd hi h,h⟩⟩
theorem dflS_memB {l:List Cmp} {H:Nat->Bool} (hnd:(l.map Cmp.name).Nodup) {k:Nat} (hk:k < l.length):dflS l H k=((l[k].dfl||l[k].alw)&&memB l[k].name (markL l (alwV l H))):=by
 unfold dflS
 rw[getD_cm hk,Bool.and_comm]
 congr 1
 rw[Bool.eq_iff_iff,memB_iff]
 have:=markK_name (V:=alwV l H) hnd hk
 rw[getD_cm hk] at this
 exact this.symm
theorem enters_dfl:∀ xs w,Sem.run Tryz.prog (callFunc 135 xs) w=.ok (.enter 135 xs) w:=enters_of Tryz.func135 (by kernel_rfl) rfl
theorem dfl1_any (x:ByteArray) (bI bM N:Nat) (M:List ByteArray) (w:World) (hb:Blk w bI 191 #[.map (some bM)]) (hm:KSet w bM N (M.map bs)) (hx:x.size<=2097152) :
 Calls Tryz.prog 135 #[.string x,.pointer (some ⟨bI,0,none⟩)] w fun e w'=>e=.returned (.bool (!decide (bs x∈M.map bs)))∧Ext w w':=by
 have hl:=hm.look (t:=191) Tryz.underlying191 x (by omega)
 have c1:=hb.cell;have l1:=hb.lt
 clear hb hm
 generalize decide (bs x∈M.map bs)=r at *
 go_enter Tryz.func135,Tryz.ntmps135
 go_wp2
 go_ret
 exact⟨rfl,Ext.refl _⟩
end
section
open Go.RowKit
theorem dfl_no {a b c:Bool} (h:false=((a||b)&&c)):(a=false∧b=false)∨(a=true∧c=false)∨(a=false∧b=true∧c=false):=by revert h;cases a<;>cases b<;>cases c<;>simp
theorem dfl_yes {a b c:Bool} (h:true=((a||b)&&c)):c=true∧(a=true∨(a=false∧b=true)):=by revert h;cases a<;>cases b<;>cases c<;>simp
set_option maxHeartbeats 32000000 in
set_option maxRecDepth 100000 in
theorem DefaultsOf_any (p:Pkg) (A:Option Addr) (c:Nat) (A2:Option Addr) (c2:Nat) (A3:Option Addr) (c3:Nat) (A4:Option Addr) (c4:Nat) (bF bS nF nS:Nat) (lf ls:List Se) (w:World) (hg:GoodN w) (hr:RdC w A3 p.comps) (h30:p.comps.length<=30) (hnd:(p.comps.map Cmp.name).Nodup) (hsn:∀ c∈p.comps,c.name.size<=2097152) (hns:∀ c∈p.comps,∀ x∈c.needs,x.size<=2097152) (hnt:(p.comps.flatMap Cmp.needs).length<=2097152)
 (hnc:∀ c∈p.comps,∀ x∈c.needs,isComp p.comps x=true) (hho:∀ c∈p.comps,HoldsOfAt (tbl lf) (tbl ls) c.wh) (h1:StrMap w bF nF (tbl lf)) (h2:StrMap w bS nS (tbl ls)) :
 Calls Tryz.prog 58 #[pkV p A c A2 c2 A3 c3 A4 c4,.map (some bF),.map (some bS)] w fun e w'=>∃ A' cc,e=.returned (.slice A' (markL p.comps (dflV p.comps (hldV p.comps lf ls))).length cc)∧RdX w' A' (markL p.comps (dflV p.comps (hldV p.comps lf ls)))∧Ext w w':=by
 have HR:=Hy hr
 have CA:=Hy (fun W (h:Ext w W)=>AllowedOf_any p A c A2 c2 A3 c3 A4 c4 bF bS nF nS lf ls W (hg.ext h) (hr.ext h) h30 hnd hsn hns hnt hnc hho (h1.ext h) (h2.ext h))
 have CN:=Hy (fun W (h:Ext w W)=>needsOf_any p A c A2 c2 A3 c3 A4 c4 W (hr.ext h) (by omega) hsn hnd)
 have CL:=Hy (fun w0 bA nA a W (h:Ext w0 W) (ha:a.size<=2097152) (hm:NdMap w0 W bA nA p.comps)=>leads2_any w0 bA nA p.comps a W (needs_small (needs_each hnt) hns) (needs_few hnt) ha h hm)
 generalize hldV p.comps lf ls=H at *
 have CT:=Hy (fun A c W (h:RdX W A (markL p.comps (alwV p.comps H))) x=>ContainsXA_any A (markL p.comps (alwV p.comps H)).length c (markL p.comps (alwV p.comps H)) x W rfl h (by have:=markK_len p.comps (alwV p.comps H) p.comps.length;unfold markL;omega))
 have HSEL:=Hy (fun k (hk:k < p.comps.length)=>dflS_memB (H:=H) hnd hk)
 have HGS:=Hy (fun k x (h:dflS p.comps H k=false)=>GatK.skip (l:=p.comps) (sel:=dflS p.comps H) (k:=k) h x)
 have HGT:=Hy (fun k x (h:dflS p.comps H k=true)=>GatK.take (l:=p.comps) (sel:=dflS p.comps H) (k:=k) h x)
 have HGN:=Hy (fun k (hk:k < p.comps.length)=>show (p.comps.getD k zeroP).name=p.comps[k].name from by rw[getD_cm hk])
 have HEQ:=Hy (fun M hM=>defaultsOf_eq (l:=p.comps) (H:=H) hnd (M:=M) hM)
 have HML:=Hy (show (markL p.comps (alwV p.comps H)).length<=p.comps.length from markK_len p.comps (alwV p.comps H) p.comps.length)
 have HMS:=Hy (show ∀ x∈markL p.comps (alwV p.comps H),x.size<=2097152 from fun x hx=>by
  obtain⟨i,hi,_,rfl⟩:=markK_mem.1 hx
  rw[getD_cm hi]
  exact hsn _ (List.getElem_mem hi))
 have HSN:=Hy (fun k (hk:k < p.comps.length)=>hsn _ (List.getElem_mem hk))
 have HLS:=Hy (show ∀ a x,Leads p.comps a x->x.size<=2097152 from fun a x h=>by
  obtain⟨c,hc,hx⟩:=List.mem_flatMap.1 (leads_need h)
  exact hns c hc x hx)
 clear hr hnd hsn hns hnt hnc hho h1 h2 hg
 obtain⟨pn,⟨v1,v2,v3,va⟩,pt,pe,pb,l,pm⟩:=p
 dsimp only[pkV] at *
 generalize pe.length=l1 at *
 generalize pb.length=l2 at *
 generalize pm.length=l4 at *
 generalize markL l (dflV l H)=DL at *
 generalize markL l (alwV l H)=ML at *
 generalize dflS l H=SEL at *
 generalize hn:l.length=n at h30 CA CN HEQ HML ⊢
 have HN:=Hy hn
 clear hn
 have b0:=Blk.new w 76 #[.string pn,.int .i64 v1,.int .i64 v2,.int .i64 v3,.string va,.string pt,.slice A l1 c,.slice A2 l2 c2,.slice A3 n c3,.slice A4 l4 c4]
 have hx0:Ext w (w.alloc (.cells #[.string pn,.int .i64 v1,.int .i64 v2,.int .i64 v3,.string va,.string pt,.slice A l1 c,.slice A2 l2 c2,.slice A3 n c3,.slice A4 l4 c4] 76)):=(Ext.refl w).alloc _
 have hs0:(w.alloc (.cells #[.string pn,.int .i64 v1,.int .i64 v2,.int .i64 v3,.string va,.string pt,.slice A l1 c,.slice A2 l2 c2,.slice A3 n c3,.slice A4 l4 c4] 76)).heap.size=w.heap.size+1:=World.size_alloc _ _
 generalize hW0:w.alloc (.cells #[.string pn,.int .i64 v1,.int .i64 v2,.int .i64 v3,.string va,.string pt,.slice A l1 c,.slice A2 l2 c2,.slice A3 n c3,.slice A4 l4 c4] 76)=W0 at *
 have HW0:=Hy hW0
 have e0:=b0.cell;have l0:=b0.lt
 clear hW0
 go_enter Tryz.func58,Tryz.ntmps58
 go_wp2_with fail
 rw[HW0.out]
 refine (CA.out _ hx0).mono ?_
 rintro e w1 ⟨vv,B,rfl,hB,hown,hx1⟩
 obtain⟨A',g,cc,rfl,hcc,hA',hBg,hrow,hgl⟩:=RowX.own hown rfl
 have HROW:=Hy hrow
 have HRDX:=Hy (show RdX w1 A' ML from fun h=>by
  have:=List.length_pos_iff.2 h
  rw[hA' this]
  exact hrow.rdx h)
 have HA':=Hy hA';have HGL:=Hy hgl
 have hx01:=hx0.trans hx1
 have b1:=b0.ext hx1
 have e1:=b1.cell;have l1':=b1.lt
 have hsz1:=hx1.size
 clear e0 l0 hown hrow hA' hgl CA b0
 go_wp2_with fail
 refine (CN.out _ hx01).mono ?_
 rintro e w2 ⟨bA,rfl,hbA,hma,hx2⟩
 have hlA:=hma.lt
 have hs2:=hx2.size
 have hx02:=hx01.trans hx2
 have s3:(w2.alloc (.map #[] 0)).heap.size=w2.heap.size+1:=World.size_alloc _ _
 have xm:Ext w2 (w2.alloc (.map #[] 0)):=(Ext.refl w2).alloc _
 have xb:Ext (w2.alloc (.map #[] 0)) ((w2.alloc (.map #[] 0)).alloc (.cells #[.map (some w2.heap.size)] 191)):=(Ext.refl (w2.alloc (.map #[] 0))).alloc _
 have HST:=Hy (show GtSt w1 w.heap.size #[.string pn,.int .i64 v1,.int .i64 v2,.int .i64 v3,.string va,.string pt,.slice A l1 c,.slice A2 l2 c2,.slice A3 n c3,.slice A4 l4 c4] bA n l w2.heap.size 0 [] ((w2.alloc (.map #[] 0)).alloc (.cells #[.map (some w2.heap.size)] 191)) from
  ⟨(b1.ext hx2).ext (xm.trans xb),hma.ext (xm.trans xb),(KSet.made w2).ext xb,hx2.trans (xm.trans xb),hs2,by omega⟩)
 have HB0:=Hy (show Blk ((w2.alloc (.map #[] 0)).alloc (.cells #[.map (some w2.heap.size)] 191)) (w2.heap.size+1) 191 #[.map (some w2.heap.size)] from by
  have:=Blk.new (w2.alloc (.map #[] 0)) 191 #[.map (some w2.heap.size)]
  rwa [s3] at this)
 have e3:=HST.out.p.cell;have l3:=HST.out.p.lt
 have hmm:=@run_makeMap Tryz.prog
 clear hma e1 l1' b1 CN xm xb s3
 go_wp2
 clear e3 l3 hmm
 go_loopw [23] (fun i wr=>∃ (k:Nat) (M:List ByteArray) (N:Nat),k<=n∧i=.int .i64 k∧N<=gtB k∧Hid (∀ (x:ByteArray),x∈M↔GatK l SEL k x)∧Hid (GtSt w1 w.heap.size #[.string pn,.int .i64 v1,.int .i64 v2,.int .i64 v3,.string va,.string pt,.slice A l1 c,.slice A2 l2 c2,.slice A3 n c3,.slice A4 l4 c4] bA n l w2.heap.size N M wr)∧Hid (Blk wr (w2.heap.size+1) 191 #[.map (some w2.heap.size)])) (fun i _=>n - (intOf i).toNat)
 case atStart=>exact⟨0,[],0,Nat.zero_le _,rfl,Nat.zero_le _,Hy (fun x=>⟨fun h=>(by cases h),fun ⟨_,h,_⟩=>absurd h (Nat.not_lt_zero _)⟩),HST,HB0⟩
 case round =>
  clear HST HB0
  obtain⟨k,M,N,hk,rfl,hN,HG,HS,HB⟩:=hrel
  obtain⟨wo,rfl⟩:∃ wo:World,wo=wr:=⟨_,rfl⟩
  have hx1o:=HS.out.x
  have hxw:=hx01.trans hx1o
  by_cases hlt:k < n
  ·have hk1:k < l.length:=by rw[HN.out];exact hlt
   obtain⟨b,o,rfl,hX⟩:=HR.out (fun e=>by rw[e] at hk1;exact absurd hk1 (Nat.not_lt_zero _))
   obtain⟨k0,n0,x0,A5,m5,c5,A6,c6,A7,c7,A8,c8,hrow⟩:=hX k hk1
   have LD:=load_Cm (hrow.ext hxw)
   have hnm:=HSN.out k hk1
   have HSK:=Hy (HSEL.out k hk1)
   have HNK:=Hy (HGN.out k hk1)
   have HGSK:=Hy (fun x=>HGS.out k x)
   have HGTK:=Hy (fun x=>HGT.out k x)
   rw[HNK.out] at HGTK
   clear hX hrow
   generalize SEL k=SE at *
   generalize l[k]=q at *
   obtain⟨qn,qt,qd,qa,qw,qe,qi,qs⟩:=q
   dsimp only[cmV] at *
   generalize qe.length=l6 at *
   generalize qi.length=l7 at *
   generalize qs.length=l8 at *
   have b1:=Blk.new wo 82 #[.string qn,.string qt,.bool qd,.bool qa,.int .i64 k0,.string n0,.string x0,.slice A5 m5 c5,.slice A6 l6 c6,.slice A7 l7 c7,.slice A8 l8 c8]
   have hxa:Ext wo (wo.alloc (.cells #[.string qn,.string qt,.bool qd,.bool qa,.int .i64 k0,.string n0,.string x0,.slice A5 m5 c5,.slice A6 l6 c6,.slice A7 l7 c7,.slice A8 l8 c8] 82)):=(Ext.refl wo).alloc _
   have HS1:=Hy (HS.out.ext hxa)
   have HB1:=Hy (HB.out.ext hxa)
   have bC1:=Hy b1
   generalize hW1:wo.alloc (.cells #[.string qn,.string qt,.bool qd,.bool qa,.int .i64 k0,.string n0,.string x0,.slice A5 m5 c5,.slice A6 l6 c6,.slice A7 l7 c7,.slice A8 l8 c8] 82)=W1 at *
   have HW1:=Hy hW1
   clear hW1
   have e1:=b1.cell;have l1':=b1.lt
   have e2:=HB1.out.cell;have l2':=HB1.out.lt
   have CTK:=Hy (fun W (h:Ext wo W)=>CT.out A' cc W (HRDX.out.ext (hx1o.trans h)) qn)
   have hSE:=HSK.out
   generalize memB qn ML=MB at *
   clear HSK
   cases SE with
   | false =>
     have HG2:=Hy (show ∀ x:ByteArray,x∈M↔GatK l SEL (k+1) x from fun x=>(HG.out x).trans (HGSK.out x rfl).symm)
     have h3:=dfl_no hSE
     clear hSE
     rcases h3 with ⟨rfl,rfl⟩|⟨rfl,rfl⟩|⟨rfl,rfl,rfl⟩
     ·go_wp2_with (first|(rw[HW1.out])|(refine wpList_load_at rfl _ _ rfl _ rfl _ LD ?_))
      go_roundw
      case rel=>exact⟨k+1,M,N,by omega,by go_num,by rw[gtB_succ];omega,HG2,HS1,HB1⟩
      case measure=>simp[intOf];omega
     all_goals
      go_wp2_with (first|(rw[HW1.out])|(refine wpList_load_at rfl _ _ rfl _ rfl _ LD ?_))
      refine (CTK.out _ hxa).mono ?_
      rintro e w' ⟨rfl,rfl⟩
      go_wp2
      go_roundw
      case rel=>exact⟨k+1,M,N,by omega,by go_num,by rw[gtB_succ];omega,HG2,HS1,HB1⟩
      case measure=>simp[intOf];omega
   | true =>
     have HGT2:=Hy (fun x=>HGTK.out x rfl)
     obtain⟨w3,hr3,hm3,hg3⟩:=HS1.out.m.updB (t:=191) Tryz.underlying191 qn (by omega) (by have:=gtB_le (k:=k) (by omega);omega)
     rw[show M.map bs++[bs qn]=(M++[qn]).map bs from by simp] at hm3
     have hs0o:=hx1o.size
     have HS3:=Hy (HS1.out.upd hg3 hm3)
     have HB3:=Hy (HB1.out.turned hg3 (by simp))
     have b3:=bC1.out.turned hg3 (by have:=HS.out.m.lt;simp;omega)
     have e3:=b3.cell;have l3':=b3.lt
     have CLK:=Hy (CL.out w1 bA n qn w3 HS3.out.x hnm HS3.out.a)
     have HLK:=Hy (HLS.out qn)
     clear hm3 hg3 b3
     obtain⟨rfl,hor⟩:=dfl_yes hSE
     clear hSE
     rcases hor with rfl|⟨rfl,rfl⟩
     all_goals
      go_wp2_with (first|(rw[HW1.out])|(refine wpList_load_at rfl _ _ rfl _ rfl _ LD ?_))
      refine (CTK.out _ hxa).mono ?_
      rintro e w' ⟨rfl,rfl⟩
      go_wp2_with fail
      refine CLK.out.mono ?_
      rintro e w4 ⟨s,N2,L,rfl,hs3,hks,hN2,hld,hx4⟩
      have HS4:=Hy (HS3.out.ext hx4)
      have HB4:=Hy (HB3.out.ext hx4)
      have HLD:=Hy hld
      have hslt:=hks.lt
      have hMlt:=HS3.out.m.lt
      have hAlt:=HS3.out.a.lt
      have hPlt:=HS3.out.p.lt
      have hBlt:=HB3.out.lt
      have hx4s:=hx4.size
      have h03:=HS3.out.x.size
      clear e3 l3' hld hr3 e1 l1' e2 l2'
      go_wp2_with (first
       | (at_range;refine wp_range_k _ rfl _ 191 rfl Tryz.underlying191 s N2 (L.map bs) rfl hks ?_;intro w5 cnt0 hrg0 hg0 hs0)
       | go_in)
      go_frame
      have hx5:Ext w4 w5:=grown_ext0 hg0
      have HS5:=Hy (HS4.out.ext hx5)
      have HB5:=Hy (HB4.out.ext hx5)
      have hc0:=hrg0.cnt_le
      clear hg0 hks
      go_loopw [12] (fun _ wr=>∃ (left:Str->Bool) (cnt N3:Nat) (M2:List ByteArray),RangeK wr s w4.heap.size N2 (L.map bs) left cnt∧N3+cnt<=N+1+N2∧Hid (∀ y,y∈M2↔(y∈M++[qn]∨(y∈L∧left (bs y)=false)))∧Hid (GtSt w1 w.heap.size #[.string pn,.int .i64 v1,.int .i64 v2,.int .i64 v3,.string va,.string pt,.slice A l1 c,.slice A2 l2 c2,.slice (some ⟨b,o,none⟩) n c3,.slice A4 l4 c4] bA n l w2.heap.size N3 M2 wr)∧Hid (Blk wr (w2.heap.size+1) 191 #[.map (some w2.heap.size)])) (fun _ wr=>wr.rangeLeft s w4.heap.size)
      case atStart=>exact⟨_,cnt0,N+1,M++[qn],hrg0,by omega,Hy (fun y=>gat_start y),HS5,HB5⟩
      case round =>
       clear hrg0
       obtain⟨left,cnt,N3,M2,hrg,hN3,HM2,HSr,HBr⟩:=hrel
       go_wp2_with (first
        | (at_next;refine wp_next_k _ rfl _ rfl s w4.heap.size N2 (L.map bs) left cnt rfl hrg ?_ ?_)
        | go_in)
       ·intro hl0
        have HG2:=Hy (show ∀ y:ByteArray,y∈M2↔GatK l SEL (k+1) y from fun y=>gat_done HM2.out hl0 HG.out HLD.out HGT2.out y)
        clear hl0 hrg
        go_wp2
        go_roundw
        case rel=>exact⟨k+1,M2,N3,by omega,by go_num,by rw[gtB_succ];omega,HG2,HSr,HBr⟩
        case measure=>simp[intOf];omega
       ·intro x cv w6 cnt1 hox hlx ya hya hyx hrg1 hcl hg1 hs1 hen
        have hxL:x∈L:=(show ya=x from by cases ya;cases x;cases hyx;rfl) ▸ hya
        have hxs:=HLK.out x ((HLD.out x).1 hxL)
        have HS6:=Hy (HSr.out.row hg1 (by omega) (by omega) (by omega) (by omega))
        have HB6:=Hy (HBr.out.turned hg1 (by simp;omega))
        obtain⟨w7,hr7,hm7,hg7⟩:=HS6.out.m.updB (t:=191) Tryz.underlying191 x (by omega) (by have:=gtB_le (k:=k) (by omega);omega)
        rw[show M2.map bs++[bs x]=(M2++[x]).map bs from by simp] at hm7
        have HS7:=Hy (HS6.out.upd hg7 hm7)
        have HB7:=Hy (HB6.out.turned hg7 (by simp))
        have HRG:=Hy (hrg1.grown hg7 (by simp;omega) (by simp;omega))
        have HLE2:=Hy hrg.left_eq
        have HM3:=Hy (gat_more HM2.out hxL)
        have e6:=HB6.out.cell;have l6':=HB6.out.lt
        clear hrg hrg1 hg1 hs1 hm7 hg7 hlx hya hyx hxL
        go_wp2
        go_roundw
        case rel=>exact⟨_,cnt1,N3+1,M2++[x],HRG.out,by omega,HM3,HS7,HB7⟩
        case measure=>rw[HRG.out.left_eq,HLE2.out];exact hcl
  ·obtain rfl:n=k:=by omega
   have hx1n:=HS.out.x
   have HQ:=Hy (HEQ.out M HG.out)
   have HKS:=Hy HS.out.m
   have hbM:=HS.out.hM
   have CD:=Hy (DeleteX_any A' g ML.length cc ML 135 #[.pointer (some ⟨w2.heap.size+1,0,none⟩)] (fun x=>!decide (bs x∈M.map bs)) wo rfl HA'.out (HROW.out.ext hx1n) (by have:=HML.out;omega) hcc enters_dfl
    (fun x hx W hW=>by
      have hgne:w2.heap.size≠g∧w2.heap.size+1≠g:=by
       have:=HGL.out (List.length_pos_of_mem hx)
       omega
      exact dfl1_any x (w2.heap.size+1) w2.heap.size N M W (HB.out.extC hW (fun e=>hgne.2 e)) (HKS.out.far hW.grown (fun e=>hgne.1 e)) (HMS.out x hx)))
   rw[HQ.out] at CD
   have HPOS:=Hy (show DL≠[]->0 < ML.length from fun h=>by
    rw[<-HQ.out] at h
    exact List.length_pos_iff.2 (fun e=>h (by rw[e];rfl)))
   clear HEQ HQ HG HGS HGT HKS
   go_wp2_with fail
   refine CD.out.mono ?_
   rintro e w4 ⟨rfl,hr4,hx4⟩
   have HR4:=Hy hr4
   clear hr4
   go_wp2
   go_ret
   refine⟨A',cc,rfl,fun h=>?_,ExtC.ext hxw hx4 fun i hi=>?_⟩
   ·rw[HA'.out (HPOS.out h)]
    exact HR4.out.rdx h
   ·have hi:i=g:=hi
    omega
end
section
open Go.RowKit
set_option maxHeartbeats 2000000 in
set_option maxRecDepth 100000 in
theorem CloneIt_any (xs:List Value) (A:Option Addr) (n c:Nat) (w:World) (hlen:xs.length=n * 10) (hr:0 < n->∃ b o,A=some ⟨b,o,none⟩∧∀ j u,xs[j]?=some u->w.cell? ⟨b,o+j,none⟩=some u) (hone:∀ u∈xs,u.oneCell'=true) (hl:n<=2097152) :
 Calls Tryz.prog 202 #[.slice A n c] w fun e w'=>∃ v,e=.returned v∧w'.ownsRow w.heap.size 104 10 v n xs∧Ext w w':=by
 obtain⟨i,hi,hz0,hz1,hz2⟩:=info_parts info_itm
 cases A with
 | none =>
   have q0:∀ w,Sem.run Tryz.prog (binOp BinOp.eql 79 (.slice none n c) (.slice none 0 0)) w=.ok (.bool true) w:=fun _=>by kernel_rfl
   obtain rfl:n=0:=by
    rcases Nat.eq_zero_or_pos n with h|h
    ·exact h
    ·obtain⟨_,_,e,_⟩:=hr h;cases e
   obtain rfl:xs=[]:=List.eq_nil_of_length_eq_zero (by omega)
   go_enter Tryz.func202,Tryz.ntmps202
   go_wp2
   go_ret
   exact⟨_,rfl,World.ownsRow_nil _ _ _ _,Ext.refl _⟩
 | some ad =>
   have q0:∀ w,Sem.run Tryz.prog (binOp BinOp.eql 79 (.slice (some ad) n c) (.slice none 0 0)) w=.ok (.bool false) w:=fun _=>by kernel_rfl
   have hown:=World.ownsRow_lit (base:=w.heap.size) (e:=104) (size:=10) w #[] 0 (Nat.le_refl _) (Nat.zero_le _) rfl
   have hxa:Ext w (w.alloc (.cells #[] 104)):=(Ext.refl w).alloc _
   have hcells:∀ j u,xs[j]?=some u->(w.alloc (.cells #[] 104)).cell? (ad.add j)=some u:=fun j u hu=>by
    rcases Nat.eq_zero_or_pos n with h|h
    ·subst h
     obtain rfl:xs=[]:=List.eq_nil_of_length_eq_zero (by omega)
     cases hu
    ·obtain⟨b,o,e,hX⟩:=hr h
     injection e with e
     subst e
     rw[addr_at,hxa.cell (hX j u hu)]
   go_enter Tryz.func202,Tryz.ntmps202
   go_wp2_with (at_builtin;refine wpList_append_own _ rfl _ _ 79 rfl w.heap.size 104 i (.agg #[.int .i64 0,.string ⟨#[]⟩,.string ⟨#[]⟩,.bool false,.string ⟨#[]⟩,.string ⟨#[]⟩,.string ⟨#[]⟩,.string ⟨#[]⟩,.bool false,.bool false]) 10 120 Tryz.underlying79 hi hz0 hz1 hz2 rfl (by decide) _ 0 [] rfl hown ad n c xs rfl hlen hcells hone (by simp only[maxLen];omega) (by omega) hxa.size ?_;intro v' w' hown' hg _)
   go_ret
   refine⟨v',rfl,by simpa using hown',hxa.grown hown ?_ hg⟩
   exact Nat.le_refl _
set_option maxHeartbeats 2000000 in
set_option maxRecDepth 100000 in
theorem CloneSt_any (xs:List Value) (A:Option Addr) (n c:Nat) (w:World) (hlen:xs.length=n * 3) (hr:0 < n->∃ b o,A=some ⟨b,o,none⟩∧∀ j u,xs[j]?=some u->w.cell? ⟨b,o+j,none⟩=some u) (hone:∀ u∈xs,u.oneCell'=true) (hl:n<=2097152) :
 Calls Tryz.prog 203 #[.slice A n c] w fun e w'=>∃ v,e=.returned v∧w'.ownsRow w.heap.size 108 3 v n xs∧Ext w w':=by
 obtain⟨i,hi,hz0,hz1,hz2⟩:=info_parts info_sto
 cases A with
 | none =>
   have q0:∀ w,Sem.run Tryz.prog (binOp BinOp.eql 80 (.slice none n c) (.slice none 0 0)) w=.ok (.bool true) w:=fun _=>by kernel_rfl
   obtain rfl:n=0:=by
    rcases Nat.eq_zero_or_pos n with h|h
    ·exact h
    ·obtain⟨_,_,e,_⟩:=hr h;cases e
   obtain rfl:xs=[]:=List.eq_nil_of_length_eq_zero (by omega)
   go_enter Tryz.func203,Tryz.ntmps203
   go_wp2
   go_ret
   exact⟨_,rfl,World.ownsRow_nil _ _ _ _,Ext.refl _⟩
 | some ad =>
   have q0:∀ w,Sem.run Tryz.prog (binOp BinOp.eql 80 (.slice (some ad) n c) (.slice none 0 0)) w=.ok (.bool false) w:=fun _=>by kernel_rfl
   have hown:=World.ownsRow_lit (base:=w.heap.size) (e:=108) (size:=3) w #[] 0 (Nat.le_refl _) (Nat.zero_le _) rfl
   have hxa:Ext w (w.alloc (.cells #[] 108)):=(Ext.refl w).alloc _
   have hcells:∀ j u,xs[j]?=some u->(w.alloc (.cells #[] 108)).cell? (ad.add j)=some u:=fun j u hu=>by
    rcases Nat.eq_zero_or_pos n with h|h
    ·subst h
     obtain rfl:xs=[]:=List.eq_nil_of_length_eq_zero (by omega)
     cases hu
    ·obtain⟨b,o,e,hX⟩:=hr h
     injection e with e
     subst e
     rw[addr_at,hxa.cell (hX j u hu)]
   go_enter Tryz.func203,Tryz.ntmps203
   go_wp2_with (at_builtin;refine wpList_append_own _ rfl _ _ 80 rfl w.heap.size 108 i (.agg #[.int .i64 0,.string ⟨#[]⟩,.string ⟨#[]⟩]) 3 40 Tryz.underlying80 hi hz0 hz1 hz2 rfl (by decide) _ 0 [] rfl hown ad n c xs rfl hlen hcells hone (by simp only[maxLen];omega) (by omega) hxa.size ?_;intro v' w' hown' hg _)
   go_ret
   refine⟨v',rfl,by simpa using hown',hxa.grown hown ?_ hg⟩
   exact Nat.le_refl _
set_option maxHeartbeats 2000000 in
set_option maxRecDepth 100000 in
theorem CloneCd_any (xs:List Value) (A:Option Addr) (n c:Nat) (w:World) (hlen:xs.length=n * 4) (hr:0 < n->∃ b o,A=some ⟨b,o,none⟩∧∀ j u,xs[j]?=some u->w.cell? ⟨b,o+j,none⟩=some u) (hone:∀ u∈xs,u.oneCell'=true) (hl:n<=2097152) :
 Calls Tryz.prog 265 #[.slice A n c] w fun e w'=>∃ v,e=.returned v∧w'.ownsRow w.heap.size 52 4 v n xs∧Ext w w':=by
 obtain⟨i,hi,hz0,hz1,hz2⟩:=info_parts info_cond
 cases A with
 | none =>
   have q0:∀ w,Sem.run Tryz.prog (binOp BinOp.eql 50 (.slice none n c) (.slice none 0 0)) w=.ok (.bool true) w:=fun _=>by kernel_rfl
   obtain rfl:n=0:=by
    rcases Nat.eq_zero_or_pos n with h|h
    ·exact h
    ·obtain⟨_,_,e,_⟩:=hr h;cases e
   obtain rfl:xs=[]:=List.eq_nil_of_length_eq_zero (by omega)
   go_enter Tryz.func265,Tryz.ntmps265
   go_wp2
   go_ret
   exact⟨_,rfl,World.ownsRow_nil _ _ _ _,Ext.refl _⟩
 | some ad =>
   have q0:∀ w,Sem.run Tryz.prog (binOp BinOp.eql 50 (.slice (some ad) n c) (.slice none 0 0)) w=.ok (.bool false) w:=fun _=>by kernel_rfl
   have hown:=World.ownsRow_lit (base:=w.heap.size) (e:=52) (size:=4) w #[] 0 (Nat.le_refl _) (Nat.zero_le _) rfl
   have hxa:Ext w (w.alloc (.cells #[] 52)):=(Ext.refl w).alloc _
   have hcells:∀ j u,xs[j]?=some u->(w.alloc (.cells #[] 52)).cell? (ad.add j)=some u:=fun j u hu=>by
    rcases Nat.eq_zero_or_pos n with h|h
    ·subst h
     obtain rfl:xs=[]:=List.eq_nil_of_length_eq_zero (by omega)
     cases hu
    ·obtain⟨b,o,e,hX⟩:=hr h
     injection e with e
     subst e
     rw[addr_at,hxa.cell (hX j u hu)]
   go_enter Tryz.func265,Tryz.ntmps265
   go_wp2_with (at_builtin;refine wpList_append_own _ rfl _ _ 50 rfl w.heap.size 52 i (.agg #[.int .i64 0,.string ⟨#[]⟩,.string ⟨#[]⟩,.slice none 0 0]) 4 64 Tryz.underlying50 hi hz0 hz1 hz2 rfl (by decide) _ 0 [] rfl hown ad n c xs rfl hlen hcells hone (by simp only[maxLen];omega) (by omega) hxa.size ?_;intro v' w' hown' hg _)
   go_ret
   refine⟨v',rfl,by simpa using hown',hxa.grown hown ?_ hg⟩
   exact Nat.le_refl _
end
section
open Go.RowKit
theorem mapN_inv {m j:Nat} {U:Nat->Value} {u:Value} (h:(mapN m U)[j]?=some u):j < m∧u=U j:=by
 obtain⟨h1,h2⟩:=List.getElem?_eq_some_iff.1 h
 rw[mapN_len] at h1
 have:=mapN_get (U:=U) h1
 rw[this] at h
 exact⟨h1,(Option.some.inj h).symm⟩
theorem putC_lo {U:Nat->Value} {k i:Nat} {a0 a1 a2 a3:Value} (h:i < k * 4∨k * 4+4<=i):putC U k a0 a1 a2 a3 i=U i:=by
 unfold putC
 rw[if_neg (by omega),if_neg (by omega),if_neg (by omega),if_neg (by omega)]
theorem putC_at {U:Nat->Value} {k:Nat} {a0 a1 a2 a3:Value}:putC U k a0 a1 a2 a3 (k * 4)=a0∧putC U k a0 a1 a2 a3 (k * 4+1)=a1∧putC U k a0 a1 a2 a3 (k * 4+2)=a2∧putC U k a0 a1 a2 a3 (k * 4+3)=a3:=by
 unfold putC
 refine⟨?_,?_,?_,?_⟩<;>simp
def CloneAt (c:Cd):Prop:=∀ (v:Value) (w:World),CdIn AnyB w c v->Calls Tryz.prog 200 #[v] w fun e w'=>∃ v',e=.returned v'∧CdAt w.heap.size w' c v'∧Ext w w'
theorem row_slice {w:World} {B n:Nat} {v:Value} {xs:List Value} (h:w.ownsRow B 52 4 v n xs):∃ A g c,v=.slice A n c∧n<=c∧B<=g∧(0 < n->A=some ⟨g,0,none⟩∧g < w.heap.size∧w.ownsRow B 52 4 (.slice (some ⟨g,0,none⟩) n c) n xs):=by
 rcases Nat.eq_zero_or_pos n with h0|h0
 ·subst h0
  rcases h.2 with ⟨rfl,_⟩|⟨g,cap,cur,rfl,_⟩
  ·exact⟨none,B,0,rfl,Nat.le_refl _,Nat.le_refl _,fun h=>absurd h (Nat.lt_irrefl _)⟩
  ·exact⟨_,B,_,rfl,Nat.zero_le _,Nat.le_refl _,fun h=>absurd h (Nat.lt_irrefl _)⟩
 ·obtain⟨g,c,rfl,hg,hB,hnc,_⟩:=own_form h h0
  exact⟨_,g,c,rfl,hnc,hB,fun _=>⟨rfl,hg,h⟩⟩
theorem put_far {w:World} {g m b o:Nat} {a0 a1 a2 a3 v:Value} (hb:b≠g) (h:w.cell? ⟨b,o,none⟩=some v):((((w.setCell ⟨g,m,none⟩ a0).setCell ⟨g,m+1,none⟩ a1).setCell ⟨g,m+2,none⟩ a2).setCell ⟨g,m+3,none⟩ a3).cell? ⟨b,o,none⟩=some v :=
 cell_set_far (by show b≠g;exact hb) (cell_set_far (by show b≠g;exact hb) (cell_set_far (by show b≠g;exact hb) (cell_set_far (by show b≠g;exact hb) h)))
theorem Blk.put_far {w:World} {g m b:Nat} {t:TypeId} {cs:Array Value} {a0 a1 a2 a3:Value} (hb:b≠g) (h:Blk w b t cs):Blk ((((w.setCell ⟨g,m,none⟩ a0).setCell ⟨g,m+1,none⟩ a1).setCell ⟨g,m+2,none⟩ a2).setCell ⟨g,m+3,none⟩ a3) b t cs :=
 (((h.far (by show b≠g;exact hb) _).far (by show b≠g;exact hb) _).far (by show b≠g;exact hb) _).far (by show b≠g;exact hb) _
theorem CdIn.put_far {P:Nat->Prop} {w:World} {g m:Nat} {a0 a1 a2 a3:Value} {c:Cd} {v:Value} (hg:¬ P g) (h:CdIn P w c v):CdIn P ((((w.setCell ⟨g,m,none⟩ a0).setCell ⟨g,m+1,none⟩ a1).setCell ⟨g,m+2,none⟩ a2).setCell ⟨g,m+3,none⟩ a3) c v :=
 (((h.set (by exact hg) _).set (by exact hg) _).set (by exact hg) _).set (by exact hg) _
theorem ext_put {a w:World} {g m:Nat} {a0 a1 a2 a3:Value} (h:Ext a w) (hg:a.heap.size<=g):Ext a ((((w.setCell ⟨g,m,none⟩ a0).setCell ⟨g,m+1,none⟩ a1).setCell ⟨g,m+2,none⟩ a2).setCell ⟨g,m+3,none⟩ a3) :=
 (((h.setCell hg _).setCell hg _).setCell hg _).setCell hg _
theorem size_put {w:World} {g m:Nat} {a0 a1 a2 a3:Value}:((((w.setCell ⟨g,m,none⟩ a0).setCell ⟨g,m+1,none⟩ a1).setCell ⟨g,m+2,none⟩ a2).setCell ⟨g,m+3,none⟩ a3).heap.size=w.heap.size:=by simp[World.setCell]
set_option maxRecDepth 100000 in
set_option maxHeartbeats 16000000 in
theorem clone_step (k:Int) (n x:ByteArray) (l:List Cd) (hll:l.length<=2097152) (ih:∀ c∈l,CloneAt c):CloneAt (.mk k n x l):=by
 intro v w hc
 cases hc with
 | mk _ _ _ _ A cp b o u0 u1 u2 u3 hA hb h0 h1 h2 h3 hr =>
 obtain⟨U0,hU0⟩:∃ U0:Nat->Value,∀ j,U0 (j * 4)=u0 j∧U0 (j * 4+1)=u1 j∧U0 (j * 4+2)=u2 j∧U0 (j * 4+3)=u3 j:=by
  refine⟨fun i=>if i % 4=0 then u0 (i / 4) else if i % 4=1 then u1 (i / 4) else if i % 4=2 then u2 (i / 4) else u3 (i / 4),fun j=>⟨?_,?_,?_,?_⟩⟩<;>dsimp only
  ·rw[if_pos (by omega),show j * 4 / 4=j by omega]
  ·rw[if_neg (by omega),if_pos (by omega),show (j * 4+1) / 4=j by omega]
  ·rw[if_neg (by omega),if_neg (by omega),if_pos (by omega),show (j * 4+2) / 4=j by omega]
  ·rw[if_neg (by omega),if_neg (by omega),if_neg (by omega),show (j * 4+3) / 4=j by omega]
 have hcell:∀ i,i < l.length * 4->w.cell? ⟨b,o+i,none⟩=some (U0 i):=fun i hi=>by
  have hj:i / 4 < l.length:=by omega
  have hm:i % 4 < 4:=Nat.mod_lt _ (by decide)
  obtain⟨e0,e1,e2,e3⟩:=hU0 (i / 4)
  have e:i=i / 4 * 4+i % 4:=by omega
  rw[e]
  generalize i / 4=q at *
  generalize i % 4=r at *
  match r,hm with
  | 0,_=>rw[Nat.add_zero,e0];exact h0 q hj
  | 1,_=>rw[e1,<-Nat.add_assoc];exact h1 q hj
  | 2,_=>rw[e2,<-Nat.add_assoc];exact h2 q hj
  | 3,_=>rw[e3,<-Nat.add_assoc];exact h3 q hj
 have HCH:=Hy (show ∀ j (hj:j < l.length),CdIn AnyB w l[j] (.agg #[U0 (j * 4),U0 (j * 4+1),U0 (j * 4+2),U0 (j * 4+3)]) from fun j hj=>by
  obtain⟨e0,e1,e2,e3⟩:=hU0 j
  rw[e0,e1,e2,e3]
  exact hr j hj)
 have hone:∀ i,i < l.length * 4->(U0 i).oneCell'=true:=fun i hi=>by
  have hj:i / 4 < l.length:=by omega
  have hm:i % 4 < 4:=Nat.mod_lt _ (by decide)
  obtain⟨ck,cn,cx,cA,cm,ccp,e⟩:=(HCH.out (i / 4) hj).cells
  simp only[Value.agg.injEq,Array.mk.injEq,List.cons.injEq,and_true] at e
  obtain⟨q0,q1,q2,q3⟩:=e
  have e:i=i / 4 * 4+i % 4:=by omega
  rw[e]
  generalize i / 4=q at *
  generalize i % 4=r at *
  match r,hm with
  | 0,_=>rw[Nat.add_zero,q0];rfl
  | 1,_=>rw[q1];rfl
  | 2,_=>rw[q2];rfl
  | 3,_=>rw[q3];rfl
 obtain⟨N,hN⟩:∃ N,l.length=N:=⟨_,rfl⟩
 let C0:Array Value:=#[.int .i64 k,.string n,.string x,.slice A N cp]
 have x1:Ext w (w.alloc (.cells #[.int .i64 k,.string n,.string x,.slice A N cp] 52)):=(Ext.refl w).alloc _
 have x2:Ext (w.alloc (.cells #[.int .i64 k,.string n,.string x,.slice A N cp] 52)) ((w.alloc (.cells #[.int .i64 k,.string n,.string x,.slice A N cp] 52)).alloc (.cells #[.int .i64 0,.string ⟨#[]⟩,.string ⟨#[]⟩,.slice none 0 0] 52)):=(Ext.refl _).alloc _
 have s1:(w.alloc (.cells #[.int .i64 k,.string n,.string x,.slice A N cp] 52)).heap.size=w.heap.size+1:=World.size_alloc _ _
 have b0:Blk ((w.alloc (.cells #[.int .i64 k,.string n,.string x,.slice A N cp] 52)).alloc (.cells #[.int .i64 0,.string ⟨#[]⟩,.string ⟨#[]⟩,.slice none 0 0] 52)) w.heap.size 52 #[.int .i64 k,.string n,.string x,.slice A N cp]:=(Blk.new w _ _).ext x2
 have b1:Blk ((w.alloc (.cells #[.int .i64 k,.string n,.string x,.slice A N cp] 52)).alloc (.cells #[.int .i64 0,.string ⟨#[]⟩,.string ⟨#[]⟩,.slice none 0 0] 52)) (w.heap.size+1) 52 #[.int .i64 0,.string ⟨#[]⟩,.string ⟨#[]⟩,.slice none 0 0]:=by
  have:=Blk.new (w.alloc (.cells #[.int .i64 k,.string n,.string x,.slice A N cp] 52)) 52 #[.int .i64 0,.string ⟨#[]⟩,.string ⟨#[]⟩,.slice none 0 0]
  rwa [s1] at this
 have hx0:=x1.trans x2
 have s2:((w.alloc (.cells #[.int .i64 k,.string n,.string x,.slice A N cp] 52)).alloc (.cells #[.int .i64 0,.string ⟨#[]⟩,.string ⟨#[]⟩,.slice none 0 0] 52)).heap.size=w.heap.size+2:=by rw[World.size_alloc,s1]
 have CC:=Hy (CloneCd_any (mapN (N * 4) U0) A N cp ((w.alloc (.cells #[.int .i64 k,.string n,.string x,.slice A N cp] 52)).alloc (.cells #[.int .i64 0,.string ⟨#[]⟩,.string ⟨#[]⟩,.slice none 0 0] 52)) (mapN_len _ _) (fun h=>⟨b,o,hA (by omega),fun j u hu=>by
  obtain⟨hj,rfl⟩:=mapN_inv hu
  exact hx0.cell (hcell j (by omega))⟩) (fun u hu=>by
  obtain⟨j,hj,rfl⟩:=List.mem_iff_getElem.1 hu
  rw[mapN_len] at hj
  have:=mapN_get (U:=U0) hj
  rw[List.getElem?_eq_getElem (by rw[mapN_len];exact hj)] at this
  rw[Option.some.inj this]
  exact hone j (by omega)) (by omega))
 have HIH:=Hy (fun j (hj:j < l.length)=>ih _ (List.getElem_mem hj))
 have HNL:=Hy hN
 generalize hW0:((w.alloc (.cells #[.int .i64 k,.string n,.string x,.slice A N cp] 52)).alloc (.cells #[.int .i64 0,.string ⟨#[]⟩,.string ⟨#[]⟩,.slice none 0 0] 52))=W0 at *
 have HW0:=Hy hW0
 have e0:=b0.cell;have l0:=b0.lt
 clear hW0 x1 x2 s1 hone hcell hU0 h0 h1 h2 h3 hr hA hb ih C0
 rw[hN]
 rw[hN] at hll
 clear hN
 go_enter Tryz.func200,Tryz.ntmps200
 go_wp2_with fail
 rw[HW0.out]
 refine CC.out.mono ?_
 rintro e w1 ⟨vv,rfl,hown,hx1⟩
 obtain⟨A',g,c',rfl,hc',hBg,hpos⟩:=row_slice hown
 have B0:=b0.ext hx1;have B1:=b1.ext hx1
 have e1:=B0.cell;have l1:=B0.lt;have f1:=B0.free
 have hs1:=hx1.size
 clear hown e0 l0 CC b0 b1
 have B2:=Hy (show Blk (w1.setCell ⟨w.heap.size,3,none⟩ (.slice A' N c')) w.heap.size 52 #[.int .i64 k,.string n,.string x,.slice A' N c'] from B0.set 3 (.slice A' N c'))
 have B3:=Hy (B1.far (p:=⟨w.heap.size,3,none⟩) (by show w.heap.size+1≠w.heap.size;omega) (.slice A' N c'))
 have HPOS:=Hy (show 0 < N->A'=some ⟨g,0,none⟩∧g < w1.heap.size∧CRow (w1.setCell ⟨w.heap.size,3,none⟩ (.slice A' N c')) W0.heap.size g c' N U0 from fun h0 =>
  ⟨(hpos h0).1,(hpos h0).2.1,World.ownsRow.kept (hpos h0).2.2 (grown_set w1 ⟨w.heap.size,3,none⟩ (.slice A' N c')) (.inr (by show some g≠some w.heap.size;intro e;injection e with e;omega))⟩)
 have hxs:Ext w (w1.setCell ⟨w.heap.size,3,none⟩ (.slice A' N c')):=(hx0.trans hx1).setCell (Nat.le_refl _) _
 have hss:(w1.setCell ⟨w.heap.size,3,none⟩ (.slice A' N c')).heap.size=w1.heap.size:=by simp[World.setCell]
 have e2:=B2.out.cell;have l2:=B2.out.lt
 clear hpos B0 B1
 go_wp2_with fail
 clear e1 l1 f1 e2 l2
 have HAg:=Hy (fun h=>(HPOS.out h).1)
 go_loopw [12] (fun i wr=>∃ (j:Nat) (U:Nat->Value),j<=N∧i=.int .i64 j∧Hid (Blk wr w.heap.size 52 #[.int .i64 k,.string n,.string x,.slice A' N c'])∧Hid (Blk wr (w.heap.size+1) 52 #[.int .i64 0,.string ⟨#[]⟩,.string ⟨#[]⟩,.slice none 0 0])∧Hid (0 < N->g < wr.heap.size∧CRow wr W0.heap.size g c' N U) ∧
  Hid (∀ q (hq:q < l.length),q < j->CdIn (fun b=>g < b) wr l[q] (.agg #[U (q * 4),U (q * 4+1),U (q * 4+2),U (q * 4+3)]))∧Hid (∀ i,j * 4<=i->U i=U0 i)∧Ext w wr) (fun i _=>N - (intOf i).toNat)
 case atStart=>exact⟨0,U0,Nat.zero_le _,rfl,B2,B3,Hy (fun h=>⟨by rw[hss];exact (HPOS.out h).2.1,(HPOS.out h).2.2⟩),Hy (fun _ _ h=>absurd h (Nat.not_lt_zero _)),Hy (fun _ _=>rfl),hxs⟩
 case round =>
  clear B2 B3 HPOS hxs hss
  obtain⟨j,U,hj,rfl,HB0,HB1,HP,HD,HU,hxr⟩:=hrel
  obtain⟨wo,rfl⟩:∃ wo:World,wo=wr:=⟨_,rfl⟩
  by_cases hlt:j < N
  ·obtain rfl:=HAg.out (by omega)
   obtain⟨hgl,hrow⟩:=HP.out (by omega)
   have hjl:j < l.length:=by rw[HNL.out];exact hlt
   have z0:=hrow.cell (i:=j * 4) (by omega)
   have z1:=hrow.cell (i:=j * 4+1) (by omega)
   have z2:=hrow.cell (i:=j * 4+2) (by omega)
   have z3:=hrow.cell (i:=j * 4+3) (by omega)
   rw[HU.out _ (Nat.le_refl _)] at z0
   rw[HU.out _ (by omega)] at z1 z2 z3
   have hcd:=HCH.out j hjl
   obtain⟨ck,cn,cx,cA,cm,ccp,ev⟩:=hcd.cells
   rw[ev] at hcd
   simp only[Value.agg.injEq,Array.mk.injEq,List.cons.injEq,and_true] at ev
   obtain⟨q0,q1,q2,q3⟩:=ev
   rw[q0] at z0;rw[q1] at z1;rw[q2] at z2;rw[q3] at z3
   clear q0 q1 q2 q3
   have bC:=Blk.new wo 52 #[.int .i64 ck,.string cn,.string cx,.slice cA cm ccp]
   have hxa:Ext wo (wo.alloc (.cells #[.int .i64 ck,.string cn,.string cx,.slice cA cm ccp] 52)):=(Ext.refl wo).alloc _
   have hsa:(wo.alloc (.cells #[.int .i64 ck,.string cn,.string cx,.slice cA cm ccp] 52)).heap.size=wo.heap.size+1:=World.size_alloc _ _
   have HB0a:=Hy (HB0.out.ext hxa);have HB1a:=Hy (HB1.out.ext hxa)
   have HRa:=Hy (hrow.ext hxa)
   have CI:=Hy (fun W (h:Ext w W)=>HIH.out j hjl _ W (hcd.ext h))
   have HDa:=Hy (fun q hq hqj=>(HD.out q hq hqj).ext hxa)
   generalize hW1:wo.alloc (.cells #[.int .i64 ck,.string cn,.string cx,.slice cA cm ccp] 52)=W1 at *
   have HW1:=Hy hW1
   have hxra:=hxr.trans hxa
   have eC:=bC.cell;have lC:=bC.lt
   have e1:=HB0a.out.cell;have l1:=HB0a.out.lt
   clear hW1 hcd hrow HP HD
   go_wp2_with fail
   rw[HW1.out]
   have d0:=e1 3
   have g0:=eC 0;have g1:=eC 1;have g2:=eC 2;have g3:=eC 3
   simp at d0 g0 g1 g2 g3
   have hn1:w.heap.size≠g:=by omega
   have hn2:wo.heap.size≠g:=by omega
   have xO:Ext W1 W1.drew:=(Ext.refl W1).drew
   go_region_held3 (fun w'=>w'.cell? ⟨w.heap.size,3,none⟩=some (.slice (some ⟨g,0,none⟩) N c')∧w'.cell? ⟨wo.heap.size,0,none⟩=some (.int .i64 ck)∧w'.cell? ⟨wo.heap.size,1,none⟩=some (.string cn)∧w'.cell? ⟨wo.heap.size,2,none⟩=some (.string cx)∧w'.cell? ⟨wo.heap.size,3,none⟩=some (.slice cA cm ccp))
    (first|(with_reducible exact⟨hx3.cell (xO.cell d0),hx3.cell (xO.cell g0),hx3.cell (xO.cell g1),hx3.cell (xO.cell g2),hx3.cell (xO.cell g3)⟩)|(with_reducible exact⟨put_far hn1 (hx3.cell (xO.cell d0)),put_far hn2 (hx3.cell (xO.cell g0)),put_far hn2 (hx3.cell (xO.cell g1)),put_far hn2 (hx3.cell (xO.cell g2)),put_far hn2 (hx3.cell (xO.cell g3))⟩)|(go_keep;done))
    (first
      | (go_at_call 200;with_reducible refine (CI.out _ ?_).mono ?_;(next=>exact hxra.trans xO);rintro e w3 ⟨v3,rfl,hcd3,hx3⟩;(obtain⟨dk,dn,dx,dA,dm,dcp,rfl⟩:=hcd3.cells);(have HR3:=Hy (HRa.out.ext (xO.trans hx3)));(have y0:=HR3.out.cell (i:=j * 4) (by omega));(have y1:=HR3.out.cell (i:=j * 4+1) (by omega));(have y2:=HR3.out.cell (i:=j * 4+2) (by omega));(have y3:=HR3.out.cell (i:=j * 4+3) (by omega));(have r0:=HR3.out.free)))
   all_goals
    have hsd:W1.drew.heap.size=W1.heap.size:=rfl
    have hx13:=xO.trans hx3
    have hs3:=hx13.size
    have HB0n:=Hy (Blk.put_far (m:=j * 4) (a0:=.int .i64 dk) (a1:=.string dn) (a2:=.string dx) (a3:=.slice dA dm dcp) hn1 (HB0a.out.ext hx13))
    have HB1n:=Hy (Blk.put_far (m:=j * 4) (a0:=.int .i64 dk) (a1:=.string dn) (a2:=.string dx) (a3:=.slice dA dm dcp) (show w.heap.size+1≠g by omega) (HB1a.out.ext hx13))
    have HPn:=Hy (show 0 < N->g < ((((w3.setCell ⟨g,j * 4,none⟩ (.int .i64 dk)).setCell ⟨g,j * 4+1,none⟩ (.string dn)).setCell ⟨g,j * 4+2,none⟩ (.string dx)).setCell ⟨g,j * 4+3,none⟩ (.slice dA dm dcp)).heap.size∧CRow ((((w3.setCell ⟨g,j * 4,none⟩ (.int .i64 dk)).setCell ⟨g,j * 4+1,none⟩ (.string dn)).setCell ⟨g,j * 4+2,none⟩ (.string dx)).setCell ⟨g,j * 4+3,none⟩ (.slice dA dm dcp)) W0.heap.size g c' N (putC U j (.int .i64 dk) (.string dn) (.string dx) (.slice dA dm dcp)) from
     fun _=>⟨by rw[size_put];omega,HR3.out.put j _ _ _ _⟩)
    have HDn:=Hy (show ∀ q (hq:q < l.length),q < j+1->CdIn (fun b=>g < b) ((((w3.setCell ⟨g,j * 4,none⟩ (.int .i64 dk)).setCell ⟨g,j * 4+1,none⟩ (.string dn)).setCell ⟨g,j * 4+2,none⟩ (.string dx)).setCell ⟨g,j * 4+3,none⟩ (.slice dA dm dcp)) l[q] (.agg #[putC U j (.int .i64 dk) (.string dn) (.string dx) (.slice dA dm dcp) (q * 4),putC U j (.int .i64 dk) (.string dn) (.string dx) (.slice dA dm dcp) (q * 4+1),putC U j (.int .i64 dk) (.string dn) (.string dx) (.slice dA dm dcp) (q * 4+2),putC U j (.int .i64 dk) (.string dn) (.string dx) (.slice dA dm dcp) (q * 4+3)]) from fun q hq hqj=>by
     rcases Nat.lt_or_ge q j with h|h
     ·rw[putC_lo (by omega),putC_lo (by omega),putC_lo (by omega),putC_lo (by omega)]
      exact CdIn.put_far (Nat.lt_irrefl g) ((HDa.out q hq h).ext hx13)
     ·obtain rfl:q=j:=by omega
      obtain⟨p0,p1,p2,p3⟩:=putC_at (U:=U) (k:=q) (a0:=.int .i64 dk) (a1:=.string dn) (a2:=.string dx) (a3:=.slice dA dm dcp)
      rw[p0,p1,p2,p3]
      exact CdIn.put_far (Nat.lt_irrefl g) (hcd3.imp fun b _ h=>by have:W1.drew.heap.size<=b:=h;show g < b;omega))
    have HUn:=Hy (show ∀ i,(j+1) * 4<=i->putC U j (.int .i64 dk) (.string dn) (.string dx) (.slice dA dm dcp) i=U0 i from fun i hi=>by
     rw[putC_lo (by omega)]
     exact HU.out i (by omega))
    have hxn:=ext_put (m:=j * 4) (a0:=.int .i64 dk) (a1:=.string dn) (a2:=.string dx) (a3:=.slice dA dm dcp) (hxra.trans hx13) (show w.heap.size<=g by omega)
    clear z0 z1 z2 z3 y0 y1 y2 y3 r0 d0 g0 g1 g2 g3 hcd3 HR3 HDa HRa HU bC eC lC e1 l1 HB0 HB1 HB0a HB1a
    go_wp2
    go_roundw
    case rel=>exact⟨j+1,_,by omega,by go_num,HB0n,HB1n,HPn,HDn,HUn,hxn⟩
    case measure=>simp[intOf];omega
  ·obtain rfl:j=N:=by omega
   have e1:=HB0.out.cell;have l1:=HB0.out.lt;have e2:=HB1.out.cell;have l2:=HB1.out.lt;have f2:=HB1.out.free
   have hgn:¬ (g < w.heap.size+1):=by omega
   have HFIN:=Hy (show CdAt w.heap.size ((((wo.setCell ⟨w.heap.size+1,0,none⟩ (.int .i64 k)).setCell ⟨w.heap.size+1,0+1,none⟩ (.string n)).setCell ⟨w.heap.size+1,0+2,none⟩ (.string x)).setCell ⟨w.heap.size+1,0+3,none⟩ (.slice A' j c')) (.mk k n x l) (.agg #[.int .i64 k,.string n,.string x,.slice A' l.length c']) from by
    refine CdIn.ofRow (xs:=mapN (j * 4) U) (b:=g) ⟨by rw[mapN_len,HNL.out],fun q hq=>?_⟩ k n x (fun h=>HAg.out (by rw[<-HNL.out];exact h)) (fun _=>by show w.heap.size<=g;omega) (fun i u hu=>?_)
    ·have hq2:q < j:=by rw[<-HNL.out];exact hq
     have e:∀ i,i < j * 4->(mapN (j * 4) U).getD i z0=U i:=fun i hi=>by rw[List.getD_eq_getElem?_getD,mapN_get hi];rfl
     rw[e _ (by omega),e _ (by omega),e _ (by omega),e _ (by omega)]
     exact (CdIn.put_far (g:=w.heap.size+1) (m:=0) hgn (HD.out q hq hq2)).imp fun b _ h=>by have:g < b:=h;show w.heap.size<=b;omega
    ·obtain⟨hi,rfl⟩:=mapN_inv hu
     exact put_far (show g≠w.heap.size+1 by omega) ((HP.out (by omega)).2.cell hi))
   have hxf:=ext_put (g:=w.heap.size+1) (m:=0) (a0:=.int .i64 k) (a1:=.string n) (a2:=.string x) (a3:=.slice A' j c') hxr (show w.heap.size<=w.heap.size+1 by omega)
   rw[HNL.out] at HFIN
   clear HP HD HU HCH HIH
   go_wp2
   refine bodyPost_ret (v:=.agg #[.int .i64 k,.string n,.string x,.slice A' j c']) (by simp[results,Tryz.results200,go_sem,e2]) rfl ?_
   exact⟨_,rfl,HFIN.out,hxf⟩
theorem cloneCond_any:∀ (m:Nat) (c:Cd),cnt c<=m->m<=2097152->CloneAt c:=by
 intro m
 induction m with
 | zero =>
   intro c hc _
   obtain⟨k,n,x,l⟩:=c
   have hcl:cnt (.mk k n x l)=1+cnts l:=rfl
   omega
 | succ m ih =>
   intro c hc hm
   obtain⟨k,n,x,l⟩:=c
   have hcl:cnt (.mk k n x l)=1+cnts l:=rfl
   have:=cntz_len l
   exact clone_step k n x l (by omega) (fun c hmem=>ih c (by have:=cnts_mem' hmem;omega) (by omega))
end
section
open Go.RowKit
theorem own_extC {C:Nat->Prop} {w w':World} {B n size:Nat} {e:TypeId} {v:Value} {xs:List Value} (h:w.ownsRow B e size v n xs) (hx:ExtC C w w') (hC:∀ g,B<=g->¬ C g):w'.ownsRow B e size v n xs :=
 ⟨h.1,h.2.imp id fun ⟨g,cap,cur,a,hb,hg,r⟩=>⟨g,cap,cur,a,hb,(hx.block g (by
   obtain⟨h,_⟩:=Array.getElem?_eq_some_iff.1 hg
   exact h) (hC g hb)).trans hg,r⟩⟩
theorem CloneI_any (l:List Itm) (A:Option Addr) (n c:Nat) (w:World) (hn:l.length=n) (hr:RdI w A l) (hl:n<=2097152) :
 Calls Tryz.prog 202 #[.slice A n c] w fun e w'=>∃ v,e=.returned v∧w'.ownsRow w.heap.size 104 10 v n (l.flatMap itmC)∧Ext w w' :=
 CloneIt_any _ A n c w (by rw[itmC_flat,hn]) (fun h=>by
  obtain⟨b,o,e,k⟩:=hr (fun e=>by subst e;simp at hn;omega)
  exact⟨b,o,e,itmC_cells k⟩) (itmC_one l) hl
theorem CloneS_any (l:List Sto) (A:Option Addr) (n c:Nat) (w:World) (hn:l.length=n) (hr:RdSt w A l) (hl:n<=2097152) :
 Calls Tryz.prog 203 #[.slice A n c] w fun e w'=>∃ v,e=.returned v∧w'.ownsRow w.heap.size 108 3 v n (l.flatMap stoC)∧Ext w w' :=
 CloneSt_any _ A n c w (by rw[stoC_flat,hn]) (fun h=>by
  obtain⟨b,o,e,k⟩:=hr (fun e=>by subst e;simp at hn;omega)
  exact⟨b,o,e,stoC_cells k⟩) (stoC_one l) hl
end
section
open Go.RowKit
theorem check_cnt {c:Cd} (h:checkC c=0):cnt c<=100:=by
 have hch:checkC c=if 100 < cnt c then 4 else if firstErr (prt 0 c)≠0 then firstErr (prt 0 c) else if (prt 0 c).any (fun p=>decide (20 < p.2))=true then 4 else 0:=rfl
 rw[hch] at h
 by_cases e:100 < cnt c
 ·rw[if_pos e] at h;cases h
 ·omega
theorem pk_check {p:Pkg} (h:pkErr p=0):∀ c∈p.comps,checkC c.wh=0:=fun c hc=>by
 obtain⟨k,hk,rfl⟩:=List.mem_iff_getElem.1 hc
 exact (pk_ok3 h).2 k hk
theorem pk_holds {p:Pkg} (h:pkErr p=0) {lf ls:List Se} (hs:SmallE lf):∀ c∈p.comps,HoldsOfAt (tbl lf) (tbl ls) c.wh:=fun c hc=>by
 have hk:=pk_check h c hc
 have:=check_cnt hk
 exact holdsOf_any (tbl lf) (tbl ls) (fun y u h=>tbl_size hs h) 100 c.wh (ok_of_check hk) (by omega)
set_option maxHeartbeats 4000000 in
theorem EqualX_same (A1 A2:Option Addr) (c1 c2 n:Nat) (l:List ByteArray) (w:World) (hn:l.length=n) (h1:RdX w A1 l) (h2:RdX w A2 l) (hl:n<=100000000) :
 Calls Tryz.prog 52 #[.slice A1 n c1,.slice A2 n c2] w fun e w'=>e=.returned (.bool true)∧Ext w w':=by
 have hne:((n:Int) != (n:Int))=false:=by rw[bne,beq_iff_eq.2 rfl];rfl
 have HN:=Hy hn;have H1:=Hy h1;have H2:=Hy h2
 clear hn h1 h2
 go_enter Tryz.func52,Tryz.ntmps52
 go_wp2
 go_loopw [13] (fun t wr=>∃ j:Nat,t=.int .i64 j∧j<=n∧Ext w wr) (fun t _=>n - (intOf t).toNat)
 case atStart=>exact⟨0,by go_num,Nat.zero_le _,Ext.refl w⟩
 case round =>
  obtain⟨j,rfl,hj,hxr⟩:=hrel
  by_cases hlt:j < n
  ·have hk:j < l.length:=by rw[HN.out];exact hlt
   have hne0:l≠[]:=fun e=>by rw[e] at hk;exact absurd hk (Nat.not_lt_zero _)
   obtain⟨g1,o1,rfl,k1⟩:=H1.out hne0
   obtain⟨g2,o2,rfl,k2⟩:=H2.out hne0
   have x1:=hxr.cell (k1 j hk)
   have x2:=hxr.cell (k2 j hk)
   generalize l[j]=t at *
   have hq0:(0:Int)<=(j:Int):=by omega
   have hlb1:=lt_of_cell x1;have hlb2:=lt_of_cell x2
   clear k1 k2
   go_wp2_with fail
   refine wp_region_ext (by kernel_rfl) (by kernel_rfl) ?_
   repeat (first|go_big_quiet_skip|(refine wpQuiet_step (fun K hK=>?_);go_simp;first|(refine hK _ ?_;clear hK K)|(apply Exists.intro;refine⟨fun wq hwq=>?_,hK _ ?_⟩;(obtain⟨hqc,hqf⟩:=hwq.cells;have hqs:=hwq.size;(try go_simp);first|rfl|((first|rw[if_neg (by omega)]|rw[if_pos (by omega)]);(try go_simp);rfl)|((fail)));clear hK K)))
   refine wpQuiet_nil ?_
   intro wN hxN
   obtain⟨hcN,hfN⟩:=hxN.cells
   have hsN:=hxN.size
   go_wp2
   go_roundw
   case rel=>exact⟨j+1,by go_num,hlt,hxr.trans hxN⟩
   case measure=>simp[intOf];omega
  ·go_wp2
   go_ret
   exact⟨rfl,hxr⟩
end
section
open Go.RowKit
set_option maxHeartbeats 4000000 in
theorem EqualN_nil (A1 A2:Option Addr) (c1 c2:Nat) (f:Value) (w:World) :
 Calls Tryz.prog 222 #[.slice A1 0 c1,.slice A2 0 c2,f] w fun e w'=>e=.returned (.bool true)∧w=w':=by
 go_enter Tryz.func222,Tryz.ntmps222
 go_wp2
 go_loopw [17] (fun i wr=>i=.int .i64 0∧w=wr) (fun _ _=>0)
 case atStart=>exact⟨rfl,rfl⟩
 case round =>
  obtain⟨rfl,rfl⟩:=hrel
  go_wp2
  go_ret
  exact⟨rfl,rfl⟩
set_option maxHeartbeats 4000000 in
theorem EqualM_nil (A1 A2:Option Addr) (c1 c2:Nat) (f:Value) (w:World) :
 Calls Tryz.prog 224 #[.slice A1 0 c1,.slice A2 0 c2,f] w fun e w'=>e=.returned (.bool true)∧w=w':=by
 go_enter Tryz.func224,Tryz.ntmps224
 go_wp2
 go_loopw [17] (fun i wr=>i=.int .i64 0∧w=wr) (fun _ _=>0)
 case atStart=>exact⟨rfl,rfl⟩
 case round =>
  obtain⟨rfl,rfl⟩:=hrel
  go_wp2
  go_ret
  exact⟨rfl,rfl⟩
end
section
open Go.RowKit
set_option maxHeartbeats 16000000 in
set_option maxRecDepth 100000 in
theorem part_same (q:Cmp) (k0:Int) (n0 x0:ByteArray) (A5:Option Addr) (m5 c5:Nat) (A6:Option Addr) (c6:Nat) (A7:Option Addr) (c7:Nat) (A8:Option Addr) (c8:Nat) (k1:Int) (n1 x1:ByteArray) (B5:Option Addr) (l5 d5:Nat) (B6:Option Addr) (d6:Nat) (B7:Option Addr) (d7:Nat) (B8:Option Addr) (d8:Nat) (w:World)
 (h:CmIn w q k0 n0 x0 A5 m5 c5 A6 c6 A7 c7 A8 c8) (h':CmIn w q k1 n1 x1 B5 l5 d5 B6 d6 B7 d7 B8 d8) (hs:SmallCm q) :
 Calls Tryz.prog 220 #[cmV q k0 n0 x0 A5 m5 c5 A6 c6 A7 c7 A8 c8,cmV q k1 n1 x1 B5 l5 d5 B6 d6 B7 d7 B8 d8] w fun e w'=>e=.returned (.bool true)∧Ext w w':=by
 have C1:=Hy (fun W (hx:Ext w W)=>SameCond_refl AnyB AnyB (cnt q.wh) q.wh (Nat.le_refl _) hs.cnt _ _ W (h.wh.ext hx) (h'.wh.ext hx))
 have C2:=Hy (fun W (hx:Ext w W)=>EqualX_same A6 B6 c6 d6 q.needs.length q.needs W rfl (h.needs.ext hx) (h'.needs.ext hx) (by have:=hs.nlen;omega))
 have C3:=Hy (fun W (hx:Ext w W)=>EqualI_same A7 B7 c7 d7 q.items.length q.items W rfl (h.items.ext hx) (h'.items.ext hx) (by have:=hs.ilen;omega))
 have C4:=Hy (fun W (hx:Ext w W)=>EqualS_same A8 B8 c8 d8 q.steps.length q.steps W rfl (h.steps.ext hx) (h'.steps.ext hx) (by have:=hs.slen;omega))
 clear h h' hs
 obtain⟨qn,qt,qd,qa,qw,qe,qi,qs⟩:=q
 dsimp only[cmV] at *
 generalize qe.length=l6 at *
 generalize qi.length=l7 at *
 generalize qs.length=l8 at *
 have e1:(qn.toList==qn.toList)=true:=by rw[eqE,decide_eq_true rfl]
 have e2:(qt.toList==qt.toList)=true:=by rw[eqE,decide_eq_true rfl]
 have e3:(qd==qd)=true:=beq_self_eq_true _
 have e4:(qa==qa)=true:=beq_self_eq_true _
 have X1:Ext w (w.alloc (.cells #[.string qn,.string qt,.bool qd,.bool qa,.int .i64 k0,.string n0,.string x0,.slice A5 m5 c5,.slice A6 l6 c6,.slice A7 l7 c7,.slice A8 l8 c8] 82)):=(Ext.refl w).alloc _
 have X2:Ext (w.alloc (.cells #[.string qn,.string qt,.bool qd,.bool qa,.int .i64 k0,.string n0,.string x0,.slice A5 m5 c5,.slice A6 l6 c6,.slice A7 l7 c7,.slice A8 l8 c8] 82)) ((w.alloc (.cells #[.string qn,.string qt,.bool qd,.bool qa,.int .i64 k0,.string n0,.string x0,.slice A5 m5 c5,.slice A6 l6 c6,.slice A7 l7 c7,.slice A8 l8 c8] 82)).alloc (.cells #[.string qn,.string qt,.bool qd,.bool qa,.int .i64 k1,.string n1,.string x1,.slice B5 l5 d5,.slice B6 l6 d6,.slice B7 l7 d7,.slice B8 l8 d8] 82)):=(Ext.refl _).alloc _
 have s1:(w.alloc (.cells #[.string qn,.string qt,.bool qd,.bool qa,.int .i64 k0,.string n0,.string x0,.slice A5 m5 c5,.slice A6 l6 c6,.slice A7 l7 c7,.slice A8 l8 c8] 82)).heap.size=w.heap.size+1:=World.size_alloc _ _
 have b0:=(Blk.new w 82 #[.string qn,.string qt,.bool qd,.bool qa,.int .i64 k0,.string n0,.string x0,.slice A5 m5 c5,.slice A6 l6 c6,.slice A7 l7 c7,.slice A8 l8 c8]).ext X2
 have b1:=Blk.new (w.alloc (.cells #[.string qn,.string qt,.bool qd,.bool qa,.int .i64 k0,.string n0,.string x0,.slice A5 m5 c5,.slice A6 l6 c6,.slice A7 l7 c7,.slice A8 l8 c8] 82)) 82 #[.string qn,.string qt,.bool qd,.bool qa,.int .i64 k1,.string n1,.string x1,.slice B5 l5 d5,.slice B6 l6 d6,.slice B7 l7 d7,.slice B8 l8 d8]
 rw[s1] at b1
 have X0:=X1.trans X2
 generalize hW0:((w.alloc (.cells #[.string qn,.string qt,.bool qd,.bool qa,.int .i64 k0,.string n0,.string x0,.slice A5 m5 c5,.slice A6 l6 c6,.slice A7 l7 c7,.slice A8 l8 c8] 82)).alloc (.cells #[.string qn,.string qt,.bool qd,.bool qa,.int .i64 k1,.string n1,.string x1,.slice B5 l5 d5,.slice B6 l6 d6,.slice B7 l7 d7,.slice B8 l8 d8] 82))=W0 at *
 have HW0:=Hy hW0
 clear hW0 X1 X2 s1
 have E0:=b0.cell;have L0:=b0.lt;have E1:=b1.cell;have L1:=b1.lt
 go_enter Tryz.func220,Tryz.ntmps220
 go_wp2_with fail
 rw[HW0.out]
 refine (C1.out _ X0).mono ?_
 rintro e w1 ⟨rfl,hx1⟩
 have Y1:=X0.trans hx1
 have B0:=b0.ext hx1;have B1:=b1.ext hx1
 clear E0 L0 E1 L1 b0 b1
 have E0:=B0.cell;have L0:=B0.lt;have E1:=B1.cell;have L1:=B1.lt
 go_wp2_with fail
 refine (C2.out _ Y1).mono ?_
 rintro e w2 ⟨rfl,hx2⟩
 have Y2:=Y1.trans hx2
 have b0:=B0.ext hx2;have b1:=B1.ext hx2
 clear E0 L0 E1 L1 B0 B1
 have E0:=b0.cell;have L0:=b0.lt;have E1:=b1.cell;have L1:=b1.lt
 go_wp2_with fail
 refine (C3.out _ Y2).mono ?_
 rintro e w3 ⟨rfl,hx3⟩
 have Y3:=Y2.trans hx3
 have B0:=b0.ext hx3;have B1:=b1.ext hx3
 clear E0 L0 E1 L1 b0 b1
 have E0:=B0.cell;have L0:=B0.lt;have E1:=B1.cell;have L1:=B1.lt
 go_wp2_with fail
 refine (C4.out _ Y3).mono ?_
 rintro e w4 ⟨rfl,hx4⟩
 go_wp2
 go_ret
 exact⟨rfl,Y3.trans hx4⟩
end
section
open Go.RowKit
theorem enters_part:∀ xs w,Sem.run Tryz.prog (callFunc 220 xs) w=.ok (.enter 220 xs) w:=enters_of Tryz.func220 (by kernel_rfl) rfl
set_option maxHeartbeats 16000000 in
set_option maxRecDepth 100000 in
theorem EqualP_one (q:Cmp) (g1 o1 g2 o2 z1 z2:Nat) (k0:Int) (n0 x0:ByteArray) (A5:Option Addr) (m5 c5:Nat) (A6:Option Addr) (c6:Nat) (A7:Option Addr) (c7:Nat) (A8:Option Addr) (c8:Nat) (k1:Int) (n1 x1:ByteArray) (B5:Option Addr) (l5 d5:Nat) (B6:Option Addr) (d6:Nat) (B7:Option Addr) (d7:Nat) (B8:Option Addr) (d8:Nat) (w:World)
 (h:CmRow w g1 o1 q k0 n0 x0 A5 m5 c5 A6 c6 A7 c7 A8 c8) (h':CmRow w g2 o2 q k1 n1 x1 B5 l5 d5 B6 d6 B7 d7 B8 d8) (hs:SmallCm q) :
 Calls Tryz.prog 223 #[.slice (some ⟨g1,o1,none⟩) 1 z1,.slice (some ⟨g2,o2,none⟩) 1 z2,.func (.func 220) #[] #[]] w fun e w'=>e=.returned (.bool true)∧Ext w w':=by
 have hen:=enters_part
 have CP:=Hy (fun W (hx:Ext w W)=>part_same q k0 n0 x0 A5 m5 c5 A6 c6 A7 c7 A8 c8 k1 n1 x1 B5 l5 d5 B6 d6 B7 d7 B8 d8 W (h.has.ext hx) (h'.has.ext hx) hs)
 have H1:=Hy h;have H2:=Hy h'
 clear h h' hs
 have hx2:∀ o o',Ext w ((w.alloc o).alloc o'):=fun o o'=>((Ext.refl w).alloc o).alloc o'
 go_enter Tryz.func223,Tryz.ntmps223
 go_wp2
 go_loopw [17] (fun t wr=>(t=.int .i64 0∧wr=w)∨(t=.int .i64 1∧Ext w wr)) (fun t _=>1 - (intOf t).toNat)
 case atStart=>exact .inl ⟨rfl,rfl⟩
 case round =>
  rcases hrel with ⟨rfl,rfl⟩|⟨rfl,hxr⟩
  ·have LA:=load_Cm H1.out
   have LB:=load_Cm (H2.out.ext ((Ext.refl wr).alloc (.cells #[.string q.name,.string q.title,.bool q.dfl,.bool q.alw,.int .i64 k0,.string n0,.string x0,.slice A5 m5 c5,.slice A6 q.needs.length c6,.slice A7 q.items.length c7,.slice A8 q.steps.length c8] 82)))
   have hl1:=lt_of_cell H1.out.r0;have hl2:=lt_of_cell H2.out.r0
   obtain⟨qn,qt,qd,qa,qw,qe,qi,qs⟩:=q
   dsimp only[cmV] at *
   generalize qe.length=l6 at *
   generalize qi.length=l7 at *
   generalize qs.length=l8 at *
   clear H1 H2
   go_wp2_with (first|(refine wpList_load_at rfl _ _ rfl _ rfl _ LA ?_)|(refine wpList_load_at rfl _ _ rfl _ rfl _ LB ?_))
   refine (CP.out _ (hx2 _ _)).mono ?_
   rintro e w3 ⟨rfl,hx3⟩
   clear LA LB
   go_wp2
   go_roundw
   case rel=>exact .inr ⟨by go_num,(hx2 _ _).trans hx3⟩
   case measure=>simp[intOf]
  ·go_wp2
   go_ret
   exact⟨rfl,hxr⟩
end
section
open Go.RowKit
theorem cm_end {C:Nat->Prop} {B RA RB RC:Nat} (hC:∀ g,B<=g->¬ C g) {wA wB wC WF:World} {qn qt:ByteArray} {qd qa:Bool} {qw:Cd} {qe:List ByteArray} {qi:List Itm} {qs:List Sto} {k1:Int} {n1 y1:ByteArray} {B5:Option Addr} {l5 d5 l6 l7 l8:Nat} {aA aB aC:Option Addr} {cA cB cC:Nat}
 (hoA:wA.ownsRow RA 9 1 (.slice aA l6 cA) l6 (qe.map Value.string)) (hRA:B<=RA) (hAC:Ext wA wC) (hoB:wB.ownsRow RB 104 10 (.slice aB l7 cB) l7 (qi.flatMap itmC)) (hRB:B<=RB) (hBC:Ext wB wC) (hoC:wC.ownsRow RC 108 3 (.slice aC l8 cC) l8 (qs.flatMap stoC)) (hRC:B<=RC)
 (hcd:CdAt B wC qw (.agg #[.int .i64 k1,.string n1,.string y1,.slice B5 l5 d5])) (hEC:ExtC C wC WF) (h6:qe.length=l6) (h7:qi.length=l7) (h8:qs.length=l8) :
 CmIn WF ⟨qn,qt,qd,qa,qw,qe,qi,qs⟩ k1 n1 y1 B5 l5 d5 aA cA aB cB aC cC:=by
 have oA:=own_extC (own_ext hoA hAC) hEC (fun g h=>hC g (by omega))
 have oB:=own_extC (own_ext hoB hBC) hEC (fun g h=>hC g (by omega))
 have oC:=own_extC hoC hEC (fun g h=>hC g (by omega))
 obtain⟨A1,z1,e1,m1,r1⟩:=RdX.own oA h6
 obtain⟨A2,z2,e2,m2,r2⟩:=rdi_own oB h7
 obtain⟨A3,z3,e3,m3,r3⟩:=rdst_own oC h8
 injection e1 with e1 _ f1
 injection e2 with e2 _ f2
 injection e3 with e3 _ f3
 subst e1 f1 e2 f2 e3 f3
 exact⟨(CdIn.extC hcd hEC (fun g h=>hC g h)).imp fun _ _ _=>(by trivial),r1,r2,r3,by dsimp only;omega⟩
end
section
open Go.RowKit
def oneP (g:Nat):Value:=.agg #[.string ⟨#[]⟩,.int .i64 0,.int .i64 0,.int .i64 0,.string ⟨#[]⟩,.string ⟨#[]⟩,.slice none 0 0,.slice none 0 0,.slice (some ⟨g,0,none⟩) 1 1,.slice none 0 0]
set_option maxHeartbeats 16000000 in
set_option maxRecDepth 100000 in
theorem SamePackage_one (q:Cmp) (g1 g2:Nat) (k0:Int) (n0 x0:ByteArray) (A5:Option Addr) (m5 c5:Nat) (A6:Option Addr) (c6:Nat) (A7:Option Addr) (c7:Nat) (A8:Option Addr) (c8:Nat) (k1:Int) (n1 x1:ByteArray) (B5:Option Addr) (l5 d5:Nat) (B6:Option Addr) (d6:Nat) (B7:Option Addr) (d7:Nat) (B8:Option Addr) (d8:Nat) (w:World)
 (h:CmRow w g1 0 q k0 n0 x0 A5 m5 c5 A6 c6 A7 c7 A8 c8) (h':CmRow w g2 0 q k1 n1 x1 B5 l5 d5 B6 d6 B7 d7 B8 d8) (hs:SmallCm q) :
 Calls Tryz.prog 124 #[oneP g1,oneP g2] w fun e w'=>e=.returned (.bool true)∧Ext w w':=by
 have CP:=Hy (fun W (hx:Ext w W)=>EqualP_one q g1 0 g2 0 1 1 k0 n0 x0 A5 m5 c5 A6 c6 A7 c7 A8 c8 k1 n1 x1 B5 l5 d5 B6 d6 B7 d7 B8 d8 W (h.ext hx) (h'.ext hx) hs)
 have CN:=Hy (fun f W=>EqualN_nil none none 0 0 f W)
 have CM:=Hy (fun f W=>EqualM_nil none none 0 0 f W)
 clear h h' hs
 unfold oneP
 have b0:=(Blk.new w 76 #[.string ⟨#[]⟩,.int .i64 0,.int .i64 0,.int .i64 0,.string ⟨#[]⟩,.string ⟨#[]⟩,.slice none 0 0,.slice none 0 0,.slice (some ⟨g1,0,none⟩) 1 1,.slice none 0 0]).alloc (.cells #[.string ⟨#[]⟩,.int .i64 0,.int .i64 0,.int .i64 0,.string ⟨#[]⟩,.string ⟨#[]⟩,.slice none 0 0,.slice none 0 0,.slice (some ⟨g2,0,none⟩) 1 1,.slice none 0 0] 76)
 have b1:=Blk.new (w.alloc (.cells #[.string ⟨#[]⟩,.int .i64 0,.int .i64 0,.int .i64 0,.string ⟨#[]⟩,.string ⟨#[]⟩,.slice none 0 0,.slice none 0 0,.slice (some ⟨g1,0,none⟩) 1 1,.slice none 0 0] 76)) 76 #[.string ⟨#[]⟩,.int .i64 0,.int .i64 0,.int .i64 0,.string ⟨#[]⟩,.string ⟨#[]⟩,.slice none 0 0,.slice none 0 0,.slice (some ⟨g2,0,none⟩) 1 1,.slice none 0 0]
 rw[World.size_alloc] at b1
 have X0:∀ o o',Ext w ((w.alloc o).alloc o'):=fun o o'=>((Ext.refl w).alloc o).alloc o'
 go_enter Tryz.func124,Tryz.ntmps124
 go_wp2_with fail
 refine (CN.out _ _).mono ?_
 rintro e w' ⟨rfl,rfl⟩
 go_wp2_with fail
 refine (CN.out _ _).mono ?_
 rintro e w' ⟨rfl,rfl⟩
 go_wp2_with fail
 refine (CP.out _ (X0 _ _)).mono ?_
 rintro e w3 ⟨rfl,hx3⟩
 have B0:=b0.ext hx3;have B1:=b1.ext hx3
 have e0:=B0.cell;have l0:=B0.lt;have e1:=B1.cell;have l1:=B1.lt
 go_wp2_with fail
 refine (CM.out _ _).mono ?_
 rintro e w' ⟨rfl,rfl⟩
 go_wp2
 go_ret
 exact⟨rfl,(X0 _ _).trans hx3⟩
end
section
open Go.RowKit
theorem CmRow.ofBlk {w:World} {g:Nat} {q:Cmp} {k0:Int} {n0 x0:ByteArray} {A5:Option Addr} {m5 c5:Nat} {A6:Option Addr} {c6:Nat} {A7:Option Addr} {c7:Nat} {A8:Option Addr} {c8:Nat} (h:CmIn w q k0 n0 x0 A5 m5 c5 A6 c6 A7 c7 A8 c8)
 (b:Blk w g 82 #[.string q.name,.string q.title,.bool q.dfl,.bool q.alw,.int .i64 k0,.string n0,.string x0,.slice A5 m5 c5,.slice A6 q.needs.length c6,.slice A7 q.items.length c7,.slice A8 q.steps.length c8]):CmRow w g 0 q k0 n0 x0 A5 m5 c5 A6 c6 A7 c7 A8 c8 :=
 ⟨b.cell 0,b.cell 1,b.cell 2,b.cell 3,b.cell 4,b.cell 5,b.cell 6,b.cell 7,b.cell 8,b.cell 9,b.cell 10,h⟩
set_option maxHeartbeats 16000000 in
set_option maxRecDepth 100000 in
theorem samePart_same (q:Cmp) (k0:Int) (n0 x0:ByteArray) (A5:Option Addr) (m5 c5:Nat) (A6:Option Addr) (c6:Nat) (A7:Option Addr) (c7:Nat) (A8:Option Addr) (c8:Nat) (k1:Int) (n1 x1:ByteArray) (B5:Option Addr) (l5 d5:Nat) (B6:Option Addr) (d6:Nat) (B7:Option Addr) (d7:Nat) (B8:Option Addr) (d8:Nat) (w:World)
 (h:CmIn w q k0 n0 x0 A5 m5 c5 A6 c6 A7 c7 A8 c8) (h':CmIn w q k1 n1 x1 B5 l5 d5 B6 d6 B7 d7 B8 d8) (hs:SmallCm q) :
 Calls Tryz.prog 49 #[cmV q k0 n0 x0 A5 m5 c5 A6 c6 A7 c7 A8 c8,cmV q k1 n1 x1 B5 l5 d5 B6 d6 B7 d7 B8 d8] w fun e w'=>e=.returned (.bool true)∧Ext w w':=by
 have y1:Ext w (w.alloc (.cells #[.string q.name,.string q.title,.bool q.dfl,.bool q.alw,.int .i64 k0,.string n0,.string x0,.slice A5 m5 c5,.slice A6 q.needs.length c6,.slice A7 q.items.length c7,.slice A8 q.steps.length c8] 82)):=(Ext.refl w).alloc _
 have y2:Ext (w.alloc (.cells #[.string q.name,.string q.title,.bool q.dfl,.bool q.alw,.int .i64 k0,.string n0,.string x0,.slice A5 m5 c5,.slice A6 q.needs.length c6,.slice A7 q.items.length c7,.slice A8 q.steps.length c8] 82)) ((w.alloc (.cells #[.string q.name,.string q.title,.bool q.dfl,.bool q.alw,.int .i64 k0,.string n0,.string x0,.slice A5 m5 c5,.slice A6 q.needs.length c6,.slice A7 q.items.length c7,.slice A8 q.steps.length c8] 82)).alloc (.cells #[.string q.name,.string q.title,.bool q.dfl,.bool q.alw,.int .i64 k1,.string n1,.string x1,.slice B5 l5 d5,.slice B6 q.needs.length d6,.slice B7 q.items.length d7,.slice B8 q.steps.length d8] 82)):=(Ext.refl _).alloc _
 have y3:Ext ((w.alloc (.cells #[.string q.name,.string q.title,.bool q.dfl,.bool q.alw,.int .i64 k0,.string n0,.string x0,.slice A5 m5 c5,.slice A6 q.needs.length c6,.slice A7 q.items.length c7,.slice A8 q.steps.length c8] 82)).alloc (.cells #[.string q.name,.string q.title,.bool q.dfl,.bool q.alw,.int .i64 k1,.string n1,.string x1,.slice B5 l5 d5,.slice B6 q.needs.length d6,.slice B7 q.items.length d7,.slice B8 q.steps.length d8] 82)) (((w.alloc (.cells #[.string q.name,.string q.title,.bool q.dfl,.bool q.alw,.int .i64 k0,.string n0,.string x0,.slice A5 m5 c5,.slice A6 q.needs.length c6,.slice A7 q.items.length c7,.slice A8 q.steps.length c8] 82)).alloc (.cells #[.string q.name,.string q.title,.bool q.dfl,.bool q.alw,.int .i64 k1,.string n1,.string x1,.slice B5 l5 d5,.slice B6 q.needs.length d6,.slice B7 q.items.length d7,.slice B8 q.steps.length d8] 82)).alloc (.cells #[.string q.name,.string q.title,.bool q.dfl,.bool q.alw,.int .i64 k0,.string n0,.string x0,.slice A5 m5 c5,.slice A6 q.needs.length c6,.slice A7 q.items.length c7,.slice A8 q.steps.length c8] 82)):=(Ext.refl _).alloc _
 have y4:Ext (((w.alloc (.cells #[.string q.name,.string q.title,.bool q.dfl,.bool q.alw,.int .i64 k0,.string n0,.string x0,.slice A5 m5 c5,.slice A6 q.needs.length c6,.slice A7 q.items.length c7,.slice A8 q.steps.length c8] 82)).alloc (.cells #[.string q.name,.string q.title,.bool q.dfl,.bool q.alw,.int .i64 k1,.string n1,.string x1,.slice B5 l5 d5,.slice B6 q.needs.length d6,.slice B7 q.items.length d7,.slice B8 q.steps.length d8] 82)).alloc (.cells #[.string q.name,.string q.title,.bool q.dfl,.bool q.alw,.int .i64 k0,.string n0,.string x0,.slice A5 m5 c5,.slice A6 q.needs.length c6,.slice A7 q.items.length c7,.slice A8 q.steps.length c8] 82)) ((((w.alloc (.cells #[.string q.name,.string q.title,.bool q.dfl,.bool q.alw,.int .i64 k0,.string n0,.string x0,.slice A5 m5 c5,.slice A6 q.needs.length c6,.slice A7 q.items.length c7,.slice A8 q.steps.length c8] 82)).alloc (.cells #[.string q.name,.string q.title,.bool q.dfl,.bool q.alw,.int .i64 k1,.string n1,.string x1,.slice B5 l5 d5,.slice B6 q.needs.length d6,.slice B7 q.items.length d7,.slice B8 q.steps.length d8] 82)).alloc (.cells #[.string q.name,.string q.title,.bool q.dfl,.bool q.alw,.int .i64 k0,.string n0,.string x0,.slice A5 m5 c5,.slice A6 q.needs.length c6,.slice A7 q.items.length c7,.slice A8 q.steps.length c8] 82)).alloc (.cells #[.string q.name,.string q.title,.bool q.dfl,.bool q.alw,.int .i64 k1,.string n1,.string x1,.slice B5 l5 d5,.slice B6 q.needs.length d6,.slice B7 q.items.length d7,.slice B8 q.steps.length d8] 82)):=(Ext.refl _).alloc _
 have s1:(w.alloc (.cells #[.string q.name,.string q.title,.bool q.dfl,.bool q.alw,.int .i64 k0,.string n0,.string x0,.slice A5 m5 c5,.slice A6 q.needs.length c6,.slice A7 q.items.length c7,.slice A8 q.steps.length c8] 82)).heap.size=w.heap.size+1:=World.size_alloc _ _
 have s2:((w.alloc (.cells #[.string q.name,.string q.title,.bool q.dfl,.bool q.alw,.int .i64 k0,.string n0,.string x0,.slice A5 m5 c5,.slice A6 q.needs.length c6,.slice A7 q.items.length c7,.slice A8 q.steps.length c8] 82)).alloc (.cells #[.string q.name,.string q.title,.bool q.dfl,.bool q.alw,.int .i64 k1,.string n1,.string x1,.slice B5 l5 d5,.slice B6 q.needs.length d6,.slice B7 q.items.length d7,.slice B8 q.steps.length d8] 82)).heap.size=w.heap.size+1+1:=by rw[World.size_alloc,s1]
 have s3:(((w.alloc (.cells #[.string q.name,.string q.title,.bool q.dfl,.bool q.alw,.int .i64 k0,.string n0,.string x0,.slice A5 m5 c5,.slice A6 q.needs.length c6,.slice A7 q.items.length c7,.slice A8 q.steps.length c8] 82)).alloc (.cells #[.string q.name,.string q.title,.bool q.dfl,.bool q.alw,.int .i64 k1,.string n1,.string x1,.slice B5 l5 d5,.slice B6 q.needs.length d6,.slice B7 q.items.length d7,.slice B8 q.steps.length d8] 82)).alloc (.cells #[.string q.name,.string q.title,.bool q.dfl,.bool q.alw,.int .i64 k0,.string n0,.string x0,.slice A5 m5 c5,.slice A6 q.needs.length c6,.slice A7 q.items.length c7,.slice A8 q.steps.length c8] 82)).heap.size=w.heap.size+1+1+1:=by rw[World.size_alloc,s2]
 have X:=y1.trans (y2.trans (y3.trans y4))
 have g3:=Blk.new ((w.alloc (.cells #[.string q.name,.string q.title,.bool q.dfl,.bool q.alw,.int .i64 k0,.string n0,.string x0,.slice A5 m5 c5,.slice A6 q.needs.length c6,.slice A7 q.items.length c7,.slice A8 q.steps.length c8] 82)).alloc (.cells #[.string q.name,.string q.title,.bool q.dfl,.bool q.alw,.int .i64 k1,.string n1,.string x1,.slice B5 l5 d5,.slice B6 q.needs.length d6,.slice B7 q.items.length d7,.slice B8 q.steps.length d8] 82)) 82 #[.string q.name,.string q.title,.bool q.dfl,.bool q.alw,.int .i64 k0,.string n0,.string x0,.slice A5 m5 c5,.slice A6 q.needs.length c6,.slice A7 q.items.length c7,.slice A8 q.steps.length c8]
 have g4:=Blk.new (((w.alloc (.cells #[.string q.name,.string q.title,.bool q.dfl,.bool q.alw,.int .i64 k0,.string n0,.string x0,.slice A5 m5 c5,.slice A6 q.needs.length c6,.slice A7 q.items.length c7,.slice A8 q.steps.length c8] 82)).alloc (.cells #[.string q.name,.string q.title,.bool q.dfl,.bool q.alw,.int .i64 k1,.string n1,.string x1,.slice B5 l5 d5,.slice B6 q.needs.length d6,.slice B7 q.items.length d7,.slice B8 q.steps.length d8] 82)).alloc (.cells #[.string q.name,.string q.title,.bool q.dfl,.bool q.alw,.int .i64 k0,.string n0,.string x0,.slice A5 m5 c5,.slice A6 q.needs.length c6,.slice A7 q.items.length c7,.slice A8 q.steps.length c8] 82)) 82 #[.string q.name,.string q.title,.bool q.dfl,.bool q.alw,.int .i64 k1,.string n1,.string x1,.slice B5 l5 d5,.slice B6 q.needs.length d6,.slice B7 q.items.length d7,.slice B8 q.steps.length d8]
 rw[s2] at g3
 rw[s3] at g4
 have CS:=Hy (SamePackage_one q (w.heap.size+1+1) (w.heap.size+1+1+1) k0 n0 x0 A5 m5 c5 A6 c6 A7 c7 A8 c8 k1 n1 x1 B5 l5 d5 B6 d6 B7 d7 B8 d8 _ (CmRow.ofBlk (h.ext X) (g3.ext y4)) (CmRow.ofBlk (h'.ext X) g4) hs)
 unfold oneP at CS
 clear h h' hs g3 g4 y1 y2 y3 y4 s1 s2 s3
 go_enter Tryz.func49,Tryz.ntmps49
 go_wp2_with fail
 refine CS.out.mono ?_
 rintro e w5 ⟨rfl,hx5⟩
 go_wp2
 go_ret
 exact⟨rfl,X.trans hx5⟩
end
section
open Go.RowKit
set_option maxHeartbeats 4000000 in
set_option maxRecDepth 100000 in
theorem lawC_any (q:Cmp) (k:Int) (n x:ByteArray) (A2:Option Addr) (m c2:Nat) (A3:Option Addr) (c3:Nat) (A4:Option Addr) (c4:Nat) (A5:Option Addr) (c5:Nat) (g:Nat) (nm:ByteArray) (w:World) (hc:w.cell? ⟨g,0,none⟩=some (.string nm)) :
 Calls Tryz.prog 45 (#[cmV q k n x A2 m c2 A3 c3 A4 c4 A5 c5]++#[.pointer (some ⟨g,0,none⟩)]) w fun e w'=>e=.returned (.bool (decide (q.name=nm)))∧Ext w w':=by
 have hq:=dec_toL q.name nm
 generalize decide (q.name=nm)=D at *
 obtain⟨qn,qt,qd,qa,qw,qe,qi,qs⟩:=q
 dsimp only[cmV] at *
 generalize qe.length=l3 at *
 generalize qi.length=l4 at *
 generalize qs.length=l5 at *
 have hg:=lt_of_cell hc
 go_enter Tryz.func45,Tryz.ntmps45
 go_wp2
 go_ret
 exact⟨rfl,(Ext.refl w).alloc _⟩
theorem lawIndex_any (l:List Cmp) (A:Option Addr) (n c g:Nat) (nm:ByteArray) (w:World) (hn:l.length=n) (hr:RdC w A l) (hl:n<=2097152) (hc:w.cell? ⟨g,0,none⟩=some (.string nm)) :
 Calls Tryz.prog 44 #[.slice A n c,.func (.func 45) #[] #[.pointer (some ⟨g,0,none⟩)]] w fun e w'=>e=.returned (.int .i64 (cmpAt l nm))∧Ext w w' :=
 IndexCm_any 45 (enters_of Tryz.func45 (by kernel_rfl) rfl) l A n c g nm w hn hr hl hc (fun q k n x A2 m c2 A3 c3 A4 c4 A5 c5 W' hW'=>lawC_any q k n x A2 m c2 A3 c3 A4 c4 A5 c5 g nm W' (hW'.cell hc))
end
end Go.Proofs.YtmpccllnpcbgcaaGreatDoor
