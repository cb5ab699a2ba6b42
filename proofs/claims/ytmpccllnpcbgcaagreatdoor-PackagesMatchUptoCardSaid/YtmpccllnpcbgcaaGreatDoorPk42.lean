/- Contract of outref2.AllowedOf. Contract of outref2.AllowedOf. -/
import Derived.Test.YtmpccllnpcbgcaaGreatDoorPk37
import Derived.Test.YtmpccllnpcbgcaaGreatDoorPk41
namespace Go.Proofs.YtmpccllnpcbgcaaGreatDoor
section
open Go.RowKit
theorem alw_leads {l:List Cmp} {H:Nat->Bool} {k:Nat} (hk:k < l.length) (hnd:(l.map Cmp.name).Nodup) (hnc:∀ c∈l,∀ x∈c.needs,isComp l x=true) {hb:ByteArray->Bool} (hhb:∀ j (hj:j < l.length),hb l[j].name=H j) {L:List ByteArray} (hL:∀ x,x∈L↔Leads l l[k].name x):(H k&&L.all hb)=alwV l H k:=by
 unfold alwV alwU
 congr 1
 rw[Bool.eq_iff_iff,List.all_eq_true,List.all_eq_true]
 have hh:∀ x,hasB l (l.getD k zeroP).needs x=true↔Leads l l[k].name x:=fun x=>by
  rw[getD_cm hk,hasB_iff,leads_needs,needsOf_at hk hnd]
 constructor
 ·intro h j hj
  have hj:=List.mem_range.1 hj
  rw[getD_cm hj]
  cases e:hasB l (l.getD k zeroP).needs l[j].name with
  | false=>rfl
  | true =>
    rw[<-hhb j hj,h _ ((hL _).2 ((hh _).1 e))]
    rfl
 ·intro h x hx
  have hx:=(hL x).1 hx
  obtain⟨c,hc,hxc⟩:=List.mem_flatMap.1 (leads_need hx)
  obtain⟨j,hj,rfl⟩:=isComp_iff.1 (hnc c hc x hxc)
  have hjj:=h j (List.mem_range.2 hj)
  rw[(hh _).2 hx] at hjj
  rw[getD_cm hj,hhb j hj]
  simpa using hjj
theorem all_start {L:List ByteArray} {hb:ByteArray->Bool} {h:Bool}:h=(h&&L.all fun y=>decide (bs y∈L.map bs)||hb y):=by
 have:(L.all fun y=>decide (bs y∈L.map bs)||hb y)=true:=by
  rw[List.all_eq_true]
  intro y hy
  rw[decide_eq_true (mem_bs.2 hy)]
  rfl
 rw[this,Bool.and_true]
theorem all_more {L:List ByteArray} {hb:ByteArray->Bool} {h:Bool} {left:Str->Bool} {x:ByteArray} (hx:x∈L) (_hl:left (bs x)=true) :
 ((h&&L.all fun y=>left (bs y)||hb y)&&hb x)=(h&&L.all fun y=>(left (bs y)&&!(bs y==bs x))||hb y):=by
 rw[Bool.and_assoc]
 congr 1
 rw[Bool.eq_iff_iff,Bool.and_eq_true,List.all_eq_true,List.all_eq_true]
 constructor
 ·rintro ⟨h1,h2⟩ y hy
  by_cases e:y=x
  ·rw[e,h2,Bool.or_true]
  ·have e2:(bs y==bs x)=false:=by rw[beq_eq_false_iff_ne];exact fun h=>e (bs_inj h)
   rw[e2,Bool.not_false,Bool.and_true]
   exact h1 y hy
 ·intro h1
  refine⟨fun y hy=>?_,?_⟩
  ·have:=h1 y hy
   cases h3:left (bs y)<;>cases h4:hb y<;>simp[h3,h4] at this ⊢
  ·have:=h1 x hx
   simpa using this
theorem all_done {L:List ByteArray} {hb:ByteArray->Bool} {h:Bool} {left:Str->Bool} (h0:∀ s,left s=false):(h&&L.all fun y=>left (bs y)||hb y)=(h&&L.all hb):=by
 congr 2
 funext y
 rw[h0,Bool.false_or]
end
section
open Go.RowKit
set_option maxHeartbeats 32000000 in
set_option maxRecDepth 100000 in
theorem AllowedOf_any (p:Pkg) (A:Option Addr) (c:Nat) (A2:Option Addr) (c2:Nat) (A3:Option Addr) (c3:Nat) (A4:Option Addr) (c4:Nat) (bF bS nF nS:Nat) (lf ls:List Se) (w:World) (hg:GoodN w) (hr:RdC w A3 p.comps) (h30:p.comps.length<=30) (hnd:(p.comps.map Cmp.name).Nodup) (hsn:∀ c∈p.comps,c.name.size<=2097152) (hns:∀ c∈p.comps,∀ x∈c.needs,x.size<=2097152) (hnt:(p.comps.flatMap Cmp.needs).length<=2097152)
 (hnc:∀ c∈p.comps,∀ x∈c.needs,isComp p.comps x=true) (hho:∀ c∈p.comps,HoldsOfAt (tbl lf) (tbl ls) c.wh) (h1:StrMap w bF nF (tbl lf)) (h2:StrMap w bS nS (tbl ls)) :
 Calls Tryz.prog 57 #[pkV p A c A2 c2 A3 c3 A4 c4,.map (some bF),.map (some bS)] w fun e w'=>∃ v B,e=.returned v∧w.heap.size<=B∧w'.ownsRow B 9 1 v (markL p.comps (alwV p.comps (hldV p.comps lf ls))).length ((markL p.comps (alwV p.comps (hldV p.comps lf ls))).map Value.string)∧Ext w w':=by
 have HR:=Hy hr
 have CN:=Hy (fun W (h:Ext w W)=>needsOf_any p A c A2 c2 A3 c3 A4 c4 W (hr.ext h) (by omega) hsn hnd)
 have CL:=Hy (fun w0 bA nA a W (h:Ext w0 W) (ha:a.size<=2097152) (hm:NdMap w0 W bA nA p.comps)=>leads2_any w0 bA nA p.comps a W (needs_small (needs_each hnt) hns) (needs_few hnt) ha h hm)
 have CH:=Hy (fun k (hk:k < p.comps.length) W (h:Ext w W) v (hv:CdIn AnyB W p.comps[k].wh v)=>(show Calls Tryz.prog 133 #[v,.map (some bF),.map (some bS)] W fun e w'=>e=.returned (.bool (hldV p.comps lf ls k))∧Ext W w' from by
  have hh:=hho _ (List.getElem_mem hk) AnyB v bF bS nF nS W (hg.ext h) hv (h1.ext h) (h2.ext h)
  unfold hldV
  rw[getD_cm hk]
  exact hh))
 generalize hldV p.comps lf ls=H at *
 have HGN:=Hy (fun k (hk:k < p.comps.length)=>show (p.comps.getD k zeroP).name=p.comps[k].name from by rw[getD_cm hk])
 have HAV:=Hy (fun k (hk:k < p.comps.length) L hL=>alw_leads (H:=H) hk hnd hnc (saysB_at hnd) (L:=L) hL)
 have HUP:=Hy (fun (W:World) b k (h:HbMap W b p.comps H k) (hk:k < p.comps.length) hs=>h.upd hk hnd hs (by omega))
 have HSY:=Hy (fun (W:World) b (h:HbMap W b p.comps H p.comps.length) x (hc:isComp p.comps x=true) hs=>h.says hnd hc hs)
 have HMS:=Hy (fun k=>markK_succ (l:=p.comps) (V:=alwV p.comps H) (k:=k))
 have HML:=Hy (fun k=>markK_len p.comps (alwV p.comps H) k)
 have HMD:=Hy (show markL p.comps (alwV p.comps H)=markK p.comps (alwV p.comps H) p.comps.length from rfl)
 have HSN:=Hy (fun k (hk:k < p.comps.length)=>hsn _ (List.getElem_mem hk))
 have HLS:=Hy (show ∀ a x,Leads p.comps a x->x.size<=2097152∧isComp p.comps x=true from fun a x h=>by
  obtain⟨c,hc,hx⟩:=List.mem_flatMap.1 (leads_need h)
  exact⟨hns c hc x hx,hnc c hc x hx⟩)
 have HT0:=Hy (fun W=>HbMap.made (l:=p.comps) (H:=H) W)
 clear hr hnd hsn hns hnt hnc hho h1 h2 hg
 obtain⟨pn,⟨v1,v2,v3,va⟩,pt,pe,pb,l,pm⟩:=p
 dsimp only[pkV] at *
 generalize pe.length=l1 at *
 generalize pb.length=l2 at *
 generalize pm.length=l4 at *
 generalize alwV l H=AV at *
 generalize markL l AV=ML at *
 generalize saysB l H=SB at *
 generalize hn:l.length=n at h30 CN HSY HMD ⊢
 have HN:=Hy hn
 clear hn
 have b0:=Blk.new w 76 #[.string pn,.int .i64 v1,.int .i64 v2,.int .i64 v3,.string va,.string pt,.slice A l1 c,.slice A2 l2 c2,.slice A3 n c3,.slice A4 l4 c4]
 have hx0:Ext w (w.alloc (.cells #[.string pn,.int .i64 v1,.int .i64 v2,.int .i64 v3,.string va,.string pt,.slice A l1 c,.slice A2 l2 c2,.slice A3 n c3,.slice A4 l4 c4] 76)):=(Ext.refl w).alloc _
 generalize hW0:w.alloc (.cells #[.string pn,.int .i64 v1,.int .i64 v2,.int .i64 v3,.string va,.string pt,.slice A l1 c,.slice A2 l2 c2,.slice A3 n c3,.slice A4 l4 c4] 76)=W0 at *
 have HW0:=Hy hW0
 have e0:=b0.cell;have l0:=b0.lt
 have hPW:=b0.lt
 clear hW0
 go_enter Tryz.func57,Tryz.ntmps57
 go_wp2_with fail
 rw[HW0.out]
 refine (CN.out _ hx0).mono ?_
 rintro e w1 ⟨bA,rfl,hbA,hma,hx1⟩
 have hx01:=hx0.trans hx1
 have hlA:=hma.lt
 have hs1:=hx01.size
 have hs1':=hx1.size
 have HST:=Hy (show AgSt W0 w.heap.size #[.string pn,.int .i64 v1,.int .i64 v2,.int .i64 v3,.string va,.string pt,.slice A l1 c,.slice A2 l2 c2,.slice A3 n c3,.slice A4 l4 c4] bA n l w1.heap.size H 0 (w1.alloc (.map #[] 0)) from
  ⟨(b0.ext hx1).alloc _,hma.ext ((Ext.refl w1).alloc _),HT0.out w1,hx1.alloc _,hx1.size,by omega⟩)
 have e1:=HST.out.p.cell;have l1':=HST.out.p.lt
 have hmm:=@run_makeMap Tryz.prog
 clear hma e0 l0 b0 CN
 go_wp2
 clear e1 l1' hmm
 go_loopw [22] (fun i wr=>∃ k:Nat,k<=n∧i=.int .i64 k∧Hid (AgSt W0 w.heap.size #[.string pn,.int .i64 v1,.int .i64 v2,.int .i64 v3,.string va,.string pt,.slice A l1 c,.slice A2 l2 c2,.slice A3 n c3,.slice A4 l4 c4] bA n l w1.heap.size H k wr)) (fun i _=>n - (intOf i).toNat)
 case atStart=>exact⟨0,Nat.zero_le _,rfl,HST⟩
 case round =>
  obtain⟨k,hk,rfl,HS⟩:=hrel
  obtain⟨wo,rfl⟩:∃ wo:World,wo=wr:=⟨_,rfl⟩
  have hx0o:=HS.out.x
  have hxw:=hx0.trans hx0o
  by_cases hlt:k < n
  ·have hk1:k < l.length:=by rw[HN.out];exact hlt
   obtain⟨b,o,rfl,hX⟩:=HR.out (fun e=>by rw[e] at hk1;exact absurd hk1 (Nat.not_lt_zero _))
   obtain⟨k0,n0,x0,A5,m5,c5,A6,c6,A7,c7,A8,c8,hrow⟩:=hX k hk1
   have LD:=load_Cm (hrow.ext hxw)
   have HWH:=Hy hrow.has.wh
   have hnm:=HSN.out k hk1
   have CHK:=Hy (fun W (h:Ext w W)=>CH.out k hk1 W h _ (HWH.out.ext h))
   have HUPK:=Hy (fun W h=>HUP.out W w1.heap.size k h hk1 hnm)
   clear hX hrow HWH
   generalize l[k]=q at *
   obtain⟨qn,qt,qd,qa,qw,qe,qi,qs⟩:=q
   dsimp only[cmV] at *
   generalize qe.length=l6 at *
   generalize qi.length=l7 at *
   generalize qs.length=l8 at *
   generalize H k=Hk at *
   have b1:=Blk.new wo 82 #[.string qn,.string qt,.bool qd,.bool qa,.int .i64 k0,.string n0,.string x0,.slice A5 m5 c5,.slice A6 l6 c6,.slice A7 l7 c7,.slice A8 l8 c8]
   have hxa:Ext wo (wo.alloc (.cells #[.string qn,.string qt,.bool qd,.bool qa,.int .i64 k0,.string n0,.string x0,.slice A5 m5 c5,.slice A6 l6 c6,.slice A7 l7 c7,.slice A8 l8 c8] 82)):=(Ext.refl wo).alloc _
   have HS1:=Hy (HS.out.ext hxa)
   generalize hW1:wo.alloc (.cells #[.string qn,.string qt,.bool qd,.bool qa,.int .i64 k0,.string n0,.string x0,.slice A5 m5 c5,.slice A6 l6 c6,.slice A7 l7 c7,.slice A8 l8 c8] 82)=W1 at *
   have HW1:=Hy hW1
   clear hW1
   have e1:=b1.cell;have l1':=b1.lt
   go_wp2_with (refine wpList_load_at rfl _ _ rfl _ rfl _ LD ?_)
   rw[HW1.out]
   clear LD
   refine wp_region_ext_tail 8 (by kernel_rfl) (by kernel_rfl) ?_
   simp only[List.take_succ_cons,List.take_zero,List.drop_succ_cons,List.drop_zero]
   repeat (first|go_big_quiet_skip|(refine wpQuiet_step (fun K hK=>?_);go_simp;first|(refine hK _ ?_;clear hK K)|(apply Exists.intro;refine⟨fun wq hwq=>?_,hK _ ?_⟩;(obtain⟨hqc,hqf⟩:=hwq.cells;have hqs:=hwq.size;(try go_simp);first|rfl|((first|rw[if_neg (by omega)]|rw[if_pos (by omega)]);(try go_simp);rfl)|((go_at_call 133;exact (CHK.out _ ((hxw.trans hxa).trans hwq)).mono (fun e w'' h=>⟨h.1,hwq.trans h.2⟩))));clear hK K)))
   refine wpQuiet_nil ?_
   intro wN hxN
   obtain⟨hcN,hfN⟩:=hxN.cells
   have hsN:=hxN.size
   have HSN2:=Hy (HS1.out.ext hxN)
   obtain⟨w4,hr4,hm4,hg4⟩:=HUPK.out _ HSN2.out.m
   have HS4:=Hy (HSN2.out.upd (by omega) hg4 hm4)
   clear hm4 hg4 e1 l1' hcN hfN hsN b1
   go_wp2
   go_roundw
   case rel=>exact⟨k+1,by omega,by go_num,HS4⟩
   case measure=>simp[intOf];omega
  ·obtain rfl:n=k:=by omega
   have e2:=HS.out.p.cell;have l2':=HS.out.p.lt
   clear CH HUP HST
   go_wp2
   clear e2 l2'
   go_loopw [11,38] (fun s i wr=>∃ k:Nat,k<=n∧i=.int .i64 k∧Hid (wr.ownsRow wo.heap.size 9 1 s (markK l AV k).length ((markK l AV k).map Value.string))∧Ext wo wr) (fun s i _=>n - (intOf i).toNat)
   case atStart=>exact⟨0,Nat.zero_le _,rfl,Hy (World.ownsRow_nil _ _ _ _),Ext.refl _⟩
   case round =>
    clear hk
    obtain⟨k,hk,rfl,HO,hxs⟩:=hrel
    obtain⟨ws,rfl⟩:∃ ws:World,ws=wr:=⟨_,rfl⟩
    have hxws:=hxw.trans hxs
    have hB:=hxs.size
    by_cases hlt:k < n
    ·have hk1:k < l.length:=by rw[HN.out];exact hlt
     obtain⟨b,o,rfl,hX⟩:=HR.out (fun e=>by rw[e] at hk1;exact absurd hk1 (Nat.not_lt_zero _))
     obtain⟨k0,n0,x0,A5,m5,c5,A6,c6,A7,c7,A8,c8,hrow⟩:=hX k hk1
     have LD:=load_Cm (hrow.ext hxws)
     have hnm:=HSN.out k hk1
     have HT:=Hy (HMS.out k hk1)
     have hml:=HML.out k
     have HAVK:=Hy (HAV.out k hk1)
     have HLKK:=Hy (fun W (h:HbMap W w1.heap.size l H n)=>(show (Instr.lookup 191 (.map (some w1.heap.size)) (.string l[k].name) false).run Tryz.prog W=.ok (.bool (H k)) W from by
      rw[<-HGN.out k hk1]
      exact h.look hlt (by rw[HGN.out k hk1];exact hnm)))
     clear hX hrow
     generalize l[k]=q at *
     obtain⟨qn,qt,qd,qa,qw,qe,qi,qs⟩:=q
     dsimp only[cmV] at *
     generalize qe.length=l6 at *
     generalize qi.length=l7 at *
     generalize qs.length=l8 at *
     generalize hMK:markK l AV k=MK at *
     generalize hHk:H k=Hk at *
     have b1:=Blk.new ws 82 #[.string qn,.string qt,.bool qd,.bool qa,.int .i64 k0,.string n0,.string x0,.slice A5 m5 c5,.slice A6 l6 c6,.slice A7 l7 c7,.slice A8 l8 c8]
     have hxa:Ext ws (ws.alloc (.cells #[.string qn,.string qt,.bool qd,.bool qa,.int .i64 k0,.string n0,.string x0,.slice A5 m5 c5,.slice A6 l6 c6,.slice A7 l7 c7,.slice A8 l8 c8] 82)):=(Ext.refl ws).alloc _
     have HS1:=Hy ((HS.out.ext hxs).ext hxa)
     have HO1:=Hy (own_ext HO.out hxa)
     have hB1:wo.heap.size<=(ws.alloc (.cells #[.string qn,.string qt,.bool qd,.bool qa,.int .i64 k0,.string n0,.string x0,.slice A5 m5 c5,.slice A6 l6 c6,.slice A7 l7 c7,.slice A8 l8 c8] 82)).heap.size:=Nat.le_trans hB hxa.size
     have hxs1:=hxs.trans hxa
     generalize hW1:ws.alloc (.cells #[.string qn,.string qt,.bool qd,.bool qa,.int .i64 k0,.string n0,.string x0,.slice A5 m5 c5,.slice A6 l6 c6,.slice A7 l7 c7,.slice A8 l8 c8] 82)=W1 at *
     have HW1:=Hy hW1
     clear hW1 HO
     have e1:=b1.cell;have l1':=b1.lt
     have hlook:=HLKK.out W1 HS1.out.m
     have CLK:=Hy (CL.out W0 bA n qn W1 HS1.out.x hnm HS1.out.a)
     have HLK:=Hy (HLS.out qn)
     go_wp2_with (first|(rw[HW1.out])|(refine wpList_load_at rfl _ _ rfl _ rfl _ LD ?_))
     refine CLK.out.mono ?_
     rintro e w4 ⟨s,N2,L,rfl,hs3,hks,hN2,hld,hx4⟩
     have HS4:=Hy (HS1.out.ext hx4)
     have HLD:=Hy hld
     have HO4:=Hy (own_ext HO1.out hx4)
     have b4:=b1.ext hx4
     have HOB:=Hy (fun g h=>(HO4.out.lt g h).2)
     have hslt:=hks.lt
     have hb1lt:=b1.lt
     have hMlt:=HS1.out.m.lt
     have hAlt:=HS1.out.a.lt
     have hPlt:=HS1.out.p.lt
     have hx4s:=hx4.size
     have h03:=HS1.out.x.size
     have hxs4:=hxs1.trans hx4
     have hAK:=Hy (HAVK.out L HLD.out)
     clear hld e1 l1' hlook HO1 HS1 HLKK LD b1
     go_wp2_with (first
      | (at_range;refine wp_range_k _ rfl _ 191 rfl Tryz.underlying191 s N2 (L.map bs) rfl hks ?_;intro w5 cnt0 hrg0 hg0 hs0)
      | go_in)
     go_frame
     have hx5:Ext w4 w5:=grown_ext0 hg0
     have HS5:=Hy (HS4.out.ext hx5)
     have HO5:=Hy (own_ext HO4.out hx5)
     have b5:=Hy (b4.ext hx5)
     have hxs5:=hxs4.trans hx5
     clear hg0 hks HS4 HO4 b4
     go_loopw [14] (fun rv wr=>∃ (left:Str->Bool) (cnt:Nat) (r:Bool),rv=.bool r∧RangeK wr s w4.heap.size N2 (L.map bs) left cnt∧Hid (r=(Hk&&L.all fun y=>left (bs y)||SB y))∧Hid (AgSt W0 w.heap.size #[.string pn,.int .i64 v1,.int .i64 v2,.int .i64 v3,.string va,.string pt,.slice A l1 c,.slice A2 l2 c2,.slice (some ⟨b,o,none⟩) n c3,.slice A4 l4 c4] bA n l w1.heap.size H n wr)∧Hid (wr.ownsRow wo.heap.size 9 1 _ MK.length (MK.map Value.string))∧Hid (Blk wr ws.heap.size 82 #[.string qn,.string qt,.bool qd,.bool qa,.int .i64 k0,.string n0,.string x0,.slice A5 m5 c5,.slice A6 l6 c6,.slice A7 l7 c7,.slice A8 l8 c8])∧Ext wo wr) (fun _ wr=>wr.rangeLeft s w4.heap.size)
     case atStart=>exact⟨_,cnt0,Hk,rfl,hrg0,Hy all_start,HS5,HO5,b5,hxs5⟩
     case round =>
      clear hrg0 HS5 HO5 b5 hxs5
      obtain⟨left,cnt,r,rfl,hrg,HRR,HSr,HOr,bR,hxr⟩:=hrel
      obtain⟨w6,rfl⟩:∃ w6:World,w6=wr:=⟨_,rfl⟩
      go_wp2_with (first
       | (at_next;refine wp_next_k _ rfl _ rfl s w4.heap.size N2 (L.map bs) left cnt rfl hrg ?_ ?_)
       | go_in)
      ·intro hl0
       have HRA:=Hy (show r=AV k from by rw[HRR.out,all_done hl0,hAK.out])
       clear hl0 hrg HRR hAK HAVK
       have e5:=bR.out.cell;have l5:=bR.out.lt
       cases r with
       | false =>
         have HO2:=Hy (show w6.ownsRow wo.heap.size 9 1 _ (markK l AV (k+1)).length ((markK l AV (k+1)).map Value.string) from by
          rw[HT.out,<-HRA.out]
          simpa using HOr.out)
         go_wp2
         go_roundw
         case rel=>exact⟨k+1,by omega,by go_num,HO2,hxr⟩
         case measure=>simp[intOf];omega
       | true =>
         have hown1:=HOr.out
         have hB6:=hxr.size
         go_wp2_with (at_builtin;refine wpList_app1g _ _ _ rfl _ _ 77 rfl (.string ⟨#[]⟩) 1 16 Tryz.underlying77 info_string rfl (by decide) (by decide) wo.heap.size _ MK.length _ rfl hown1 _ _ rfl (by simp) rfl (by simp[Value.oneCell']) (by omega) hB6 ?_;intro v' w' hown' hgrow hblk)
         have HO2:=Hy (show w'.ownsRow wo.heap.size 9 1 v' (markK l AV (k+1)).length ((markK l AV (k+1)).map Value.string) from by
          rw[HT.out,<-HRA.out]
          simpa using hown')
         go_roundw
         case rel=>exact⟨k+1,by omega,by go_num,HO2,hgrow _ hxr (Nat.le_refl _)⟩
         case measure=>simp[intOf];omega
      ·intro x cv w7 cnt1 hox hlx ya hya hyx hrg1 hcl hg1 hs1 hen
       have hxL:x∈L:=(show ya=x from by cases ya;cases x;cases hyx;rfl) ▸ hya
       obtain⟨hxs,hxc⟩:=HLK.out x ((HLD.out x).1 hxL)
       have HS7:=Hy (HSr.out.row hg1 (by omega) (by omega) (by omega) (by omega))
       have hsl:=HSY.out w7 w1.heap.size HS7.out.m x hxc hxs
       have HOr7:=Hy (HOr.out.kept hg1 (.inr (fun e=>by have:=HOB.out _ e;omega)))
       have bR7:=Hy (bR.out.turned hg1 (by simp;omega))
       have hxr7:=hxr.row hg1 (by omega)
       have HLE2:=Hy hrg.left_eq
       have HRM:=Hy (show (r&&SB x)=(Hk&&L.all fun y=>(left (bs y)&&!(bs y==bs x))||SB y) from by rw[HRR.out];exact all_more hxL hlx)
       generalize SB x=sx at *
       clear hrg hg1 hs1 hlx hya hyx hxL HRR bR HSr HOr hxr hAK HAVK HLK
       cases r with
       | false =>
         go_wp2
         go_roundw
         case rel=>exact⟨_,cnt1,false,rfl,hrg1,HRM,HS7,HOr7,bR7,hxr7⟩
         case measure=>rw[hrg1.left_eq,HLE2.out];exact hcl
       | true =>
         go_wp2
         go_roundw
         case rel=>exact⟨_,cnt1,sx,rfl,hrg1,HRM,HS7,HOr7,bR7,hxr7⟩
         case measure=>rw[hrg1.left_eq,HLE2.out];exact hcl
    ·obtain rfl:n=k:=by omega
     have hf:=HO.out
     rw[<-HMD.out] at hf
     have hs0:=hxw.size
     go_wp2
     go_ret
     exact⟨_,_,rfl,hs0,hf,hxws⟩
end
end Go.Proofs.YtmpccllnpcbgcaaGreatDoor
