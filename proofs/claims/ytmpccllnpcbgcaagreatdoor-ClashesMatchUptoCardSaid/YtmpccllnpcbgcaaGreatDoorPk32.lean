/- Contract of pack.placesFault. Contracts of outref2.needsOf, leads: what leads where, depth first. Contract of outref2.leads. -/
import Derived.Test.YtmpccllnpcbgcaaGreatDoorPk30
import Derived.Laws.EntriesVeiled
namespace Go.Proofs.YtmpccllnpcbgcaaGreatDoor
section
open Go.RowKit
theorem itemsL_small {l:List Cmp} (h:∀ c∈l,∀ x∈c.items,SmallI x):∀ x∈itemsL l,SmallI x:=fun x hx=>by
 obtain⟨c,hc,hx⟩:=List.mem_flatMap.1 hx
 exact h c hc x hx
set_option maxHeartbeats 32000000 in
set_option maxRecDepth 100000 in
theorem placesFault_any (p:Pkg) (A:Option Addr) (c:Nat) (A2:Option Addr) (c2:Nat) (A3:Option Addr) (c3:Nat) (A4:Option Addr) (c4:Nat) (w:World) (hp:PkIn w p A c A2 c2 A3 c3 A4 c4) (h30:p.comps.length<=30) (hnl:∀ c∈p.comps,c.needs.length<=2097152) (hnd:(p.comps.map Cmp.name).Nodup) (hit:∀ c∈p.comps,∀ x∈c.items,SmallI x) (hall:(itemsL p.comps).length<=2097152) :
 Calls Tryz.prog 122 #[pkV p A c A2 c2 A3 c3 A4 c4] w fun e w'=>e=.returned (.int .i64 (placesErr p.comps))∧Ext w w':=by
 have CI:=Hy (fun W (h:Ext w W)=>items_any p A c A2 c2 A3 c3 A4 c4 W (hp.ext h) (by omega) hall)
 have CS:=Hy (fun W (h:Ext w W)=>servicesFault_any p A c A2 c2 A3 c3 A4 c4 W (hp.comps.ext h) h30 hnl hnd hit hall)
 have HSM:=Hy (itemsL_small hit)
 obtain⟨E,hE⟩:∃ E,E=placesErr p.comps:=⟨_,rfl⟩
 rw[<-hE]
 have HE:=Hy (show E=firstI [firstN (itemsL p.comps).length (twiceAt (itemsL p.comps)),firstN (itemsL p.comps).length (fileAt (itemsL p.comps)),firstN p.comps.length (svcAt p.comps)] from hE)
 clear hp hnl hnd hE hit
 generalize firstN p.comps.length (svcAt p.comps)=S at *
 generalize itemsL p.comps=I at *
 have HB1:=Hy (show ∀ k,k < I.length->(∀ j,j < k->twiceAt I j=0)->twiceAt I k=6->E=6 from fun k hk h0 h=>by
  rw[HE.out,firstN_at hk h0 (by rw[h];decide),h];rfl)
 have HZ1:=Hy (show (∀ j,j < I.length->twiceAt I j=0)->E=firstI [firstN I.length (fileAt I),S] from fun h0=>by rw[HE.out,firstN_zero h0];rfl)
 have HB2:=Hy (show ∀ k,k < I.length->(∀ j,j < k->fileAt I j=0)->¬ fileAt I k=0->firstI [firstN I.length (fileAt I),S]=fileAt I k from fun k hk h0 h=>by
  rw[firstN_at hk h0 h];simp[firstI,h])
 have HZ2:=Hy (show (∀ j,j < I.length->fileAt I j=0)->firstI [firstN I.length (fileAt I),S]=S from fun h0=>by rw[firstN_zero h0];simp[firstI];exact fun h=>h.symm)
 clear HE
 obtain⟨pn,⟨v1,v2,v3,va⟩,pt,pe,pb,l,pm⟩:=p
 dsimp only[pkV] at *
 generalize pe.length=l1 at *
 generalize pb.length=l2 at *
 generalize pm.length=l4 at *
 generalize l.length=n at *
 have b0:=Blk.new w 76 #[.string pn,.int .i64 v1,.int .i64 v2,.int .i64 v3,.string va,.string pt,.slice A l1 c,.slice A2 l2 c2,.slice A3 n c3,.slice A4 l4 c4]
 have hx0:Ext w (w.alloc (.cells #[.string pn,.int .i64 v1,.int .i64 v2,.int .i64 v3,.string va,.string pt,.slice A l1 c,.slice A2 l2 c2,.slice A3 n c3,.slice A4 l4 c4] 76)):=(Ext.refl w).alloc _
 generalize hW0:w.alloc (.cells #[.string pn,.int .i64 v1,.int .i64 v2,.int .i64 v3,.string va,.string pt,.slice A l1 c,.slice A2 l2 c2,.slice A3 n c3,.slice A4 l4 c4] 76)=W0 at *
 have HW0:=Hy hW0
 have e0:=b0.cell;have l0:=b0.lt
 clear hW0
 go_enter Tryz.func122,Tryz.ntmps122
 go_wp2_with fail
 rw[HW0.out]
 refine (CI.out _ hx0).mono ?_
 rintro e w1 ⟨A',c',rfl,hc',hrd,hx1⟩
 have hx01:=hx0.trans hx1
 have HRD:=Hy hrd
 have HI1:=Hy (fun k=>twiceAt_eq (l:=I) (k:=k))
 have HI2:=Hy (fun k=>fileAt_eq (l:=I) (k:=k))
 obtain⟨q,hq⟩:∃ q,q=I.length:=⟨_,rfl⟩
 rw[<-hq] at hc' hall HB1 HZ1 HB2 HZ2 ⊢
 have HQ:=Hy hq
 have HMD:=Hy (show HMap (keyPair pair_place) (w1.alloc (.map #[] 0)) w1.heap.size 0 (markF ((I.take 0).map spotP)) from (HMap.made w1).congr fun _=>rfl)
 have hxm:Ext w1 (w1.alloc (.map #[] 0)):=(Ext.refl w1).alloc _
 have hmm:=@run_makeMap Tryz.prog
 have B0:=Hy (b0.ext hx1)
 clear hq hrd b0 e0 l0 CI
 go_wp2
 clear hmm
 go_loopw [15] (fun i wr=>∃ k:Nat,k<=q∧i=.int .i64 k∧Hid (∀ j,j < k->twiceAt I j=0)∧Hid (HMap (keyPair pair_place) wr w1.heap.size k (markF ((I.take k).map spotP)))∧Ext w1 wr) (fun i _=>q - (intOf i).toNat)
 case atStart=>exact⟨0,Nat.zero_le _,rfl,Hy (fun j h=>absurd h (Nat.not_lt_zero _)),HMD,hxm⟩
 case round =>
  obtain⟨k,hk,rfl,H0,HM,hxr⟩:=hrel
  obtain⟨wo,rfl⟩:∃ wo:World,wo=wr:=⟨_,rfl⟩
  by_cases hlt:k < q
  ·have hk1:k < I.length:=by rw[<-HQ.out];exact hlt
   obtain⟨b,o,rfl⟩:=RdI.at HRD.out hk1
   have LD:=load_It ((RdI.row HRD.out hk1).ext hxr)
   have HV:=Hy (HI1.out k hk1)
   have HBD:=Hy (HB1.out k hlt H0.out)
   have HNX:=Hy (show twiceAt I k=0->∀ j,j < k+1->twiceAt I j=0 from firstN_next H0.out)
   have CP:=Hy (fun W=>placeOf_any I[k] W)
   have HOK:=Hy (okP_spot (HSM.out _ (List.getElem_mem hk1)))
   have HAD:=Hy (show markF ((I.take k).map spotP++[spotP I[k]])=markF ((I.take (k+1)).map spotP) from by rw[List.take_succ_eq_append_getElem hk1,List.map_append];rfl)
   generalize I[k]=y at *
   have HSP:=Hy (show spotP y=(spotK y,spotN y) from rfl)
   generalize spotK y=K at *
   generalize spotN y=N at *
   rw[HSP.out] at HV HOK HAD
   clear HSP
   generalize hD:inP (K,N) ((I.take k).map spotP)=D at *
   have HD:=Hy hD
   generalize twiceAt I k=Z at *
   obtain⟨xk,xp,xd,xr,xe,xv,xs,xq,xa,xo⟩:=y
   dsimp only[itmV] at *
   have hxa:Ext wo (wo.alloc (.cells #[.int .i64 xk,.string xp,.string xd,.bool xr,.string xe,.string xv,.string xs,.string xq,.bool xa,.bool xo] 104)):=(Ext.refl wo).alloc _
   have b1:=Blk.new wo 104 #[.int .i64 xk,.string xp,.string xd,.bool xr,.string xe,.string xv,.string xs,.string xq,.bool xa,.bool xo]
   generalize hW1:wo.alloc (.cells #[.int .i64 xk,.string xp,.string xd,.bool xr,.string xe,.string xv,.string xs,.string xq,.bool xa,.bool xo] 104)=W1 at *
   have HW1:=Hy hW1
   clear hW1 hD
   have e1:=b1.cell;have l1':=b1.lt
   go_wp2_with (refine wpList_load_at rfl _ _ rfl _ rfl _ LD ?_)
   rw[HW1.out]
   refine (CP.out _).mono ?_
   rintro e w2 ⟨rfl,hx2⟩
   have HM2:=Hy (HM.out.ext (hxa.trans hx2))
   have e2:=(b1.ext hx2).cell;have l2':=(b1.ext hx2).lt
   have hlook:(Instr.lookup 267 (.map (some w1.heap.size)) (.agg #[.int .i64 K,.string N]) false).run Tryz.prog w2=.ok (.bool D) w2:=by
    have h:=(HM2.out.look (m:=267) Tryz.underlying267 (bool_zero _) HOK.out).2
    rw[markF_get,HD.out] at h
    exact h
   clear e1 l1' LD
   cases D with
   | true =>
     have HEE:=Hy (HBD.out (by rw[HV.out];rfl))
     go_wp2
     go_ret
     exact⟨ret_int HEE.out.symm,hx01.trans (hxr.trans (hxa.trans hx2))⟩
   | false =>
     have HN1:=Hy (HNX.out (by rw[HV.out];rfl))
     go_wp2_with fail
     refine (CP.out _).mono ?_
     rintro e w3 ⟨rfl,hx3⟩
     have hx13:=hxr.trans (hxa.trans (hx2.trans hx3))
     obtain⟨w4,hr4,hm4,hg4⟩:=(HM2.out.ext hx3).upd (m:=267) Tryz.underlying267 HOK.out (.bool true) (by omega)
     have hr4:(Instr.mapUpdate 267 (.map (some w1.heap.size)) (.agg #[.int .i64 K,.string N]) (.bool true)).run Tryz.prog w3=.ok () w4:=hr4
     rw[markF_add,HAD.out] at hm4
     have hx14:=hx13.row hg4 (Nat.le_refl _)
     have HM4:=Hy hm4
     clear hm4 hg4 e2 l2' hlook
     go_wp2
     go_roundw
     case rel=>exact⟨k+1,by omega,by go_num,HN1,HM4,hx14⟩
     case measure=>simp[intOf];omega
  ·obtain rfl:k=q:=by omega
   have HE2:=Hy (HZ1.out H0.out)
   clear H0 HM
   have hxs:=hxr
   go_wp2
   go_loopw [29] (fun i wr=>∃ j:Nat,j<=k∧i=.int .i64 j∧Hid (∀ t,t < j->fileAt I t=0)∧Ext w1 wr) (fun i _=>k - (intOf i).toNat)
   case atStart=>exact⟨0,Nat.zero_le _,rfl,Hy (fun j h=>absurd h (Nat.not_lt_zero _)),hxs⟩
   case round =>
    clear hxs hxr
    obtain⟨j,hj,rfl,H0,hxr⟩:=hrel
    obtain⟨wo,rfl⟩:∃ wo:World,wo=wr:=⟨_,rfl⟩
    by_cases hlt:j < k
    ·have hj1:j < I.length:=by rw[<-HQ.out];exact hlt
     obtain⟨b,o,rfl⟩:=RdI.at HRD.out hj1
     have LD:=load_It ((RdI.row HRD.out hj1).ext hxr)
     have HV:=Hy (HI2.out j hj1)
     have HBD:=Hy (HB2.out j hlt H0.out)
     have HNX:=Hy (show fileAt I j=0->∀ t,t < j+1->fileAt I t=0 from firstN_next H0.out)
     have CF:=Hy (fun W=>isFile_any I[j] W)
     have hpth:=(HSM.out _ (List.getElem_mem hj1)).path
     have CN:=Hy (fun W (h:Ext w1 W) g (hc:W.cell? ⟨g,0,none⟩=some (.string I[j].path))=>ContainsIt_any I (some ⟨b,o,none⟩) k c' 214 #[.pointer (some ⟨g,0,none⟩)] (fun y=>decide (spotK y=1)&&(belowL (bs I[j].path) (bs y.path)||belowL (bs y.path) (bs I[j].path))) W HQ.out.symm (HRD.out.ext h) (by omega) (fun _ _=>rfl) (fun y hy W' hW'=>nearC_any y g I[j].path W' (HSM.out y hy).path hpth (hW'.cell hc)))
     rw[show (I.any fun y=>decide (spotK y=1)&&(belowL (bs I[j].path) (bs y.path)||belowL (bs y.path) (bs I[j].path)))=nearF I I[j].path from rfl] at CN
     have CO:=Hy (fun W=>Own_any I[j].path W)
     generalize nearF I I[j].path=NF at *
     generalize ownL (bs I[j].path)=OW at *
     generalize I[j]=y at *
     generalize decide (spotK y=1)=K at *
     generalize fileAt I j=Z at *
     obtain⟨xk,xp,xd,xr,xe,xv,xs,xq,xa,xo⟩:=y
     dsimp only[itmV] at *
     have hxa:Ext wo (wo.alloc (.cells #[.int .i64 xk,.string xp,.string xd,.bool xr,.string xe,.string xv,.string xs,.string xq,.bool xa,.bool xo] 104)):=(Ext.refl wo).alloc _
     have b1:=Blk.new wo 104 #[.int .i64 xk,.string xp,.string xd,.bool xr,.string xe,.string xv,.string xs,.string xq,.bool xa,.bool xo]
     generalize hW1:wo.alloc (.cells #[.int .i64 xk,.string xp,.string xd,.bool xr,.string xe,.string xv,.string xs,.string xq,.bool xa,.bool xo] 104)=W1 at *
     have HW1:=Hy hW1
     clear hW1
     have e1:=b1.cell;have l1':=b1.lt
     go_wp2_with (refine wpList_load_at rfl _ _ rfl _ rfl _ LD ?_)
     rw[HW1.out]
     refine (CF.out _).mono ?_
     rintro e w2 ⟨rfl,hx2⟩
     have hx12:=hxr.trans (hxa.trans hx2)
     have e2:=(b1.ext hx2).cell;have l2':=(b1.ext hx2).lt
     clear e1 l1' LD
     cases K with
     | false =>
       have HN1:=Hy (HNX.out (by rw[HV.out];rfl))
       go_wp2
       go_roundw
       case rel=>exact⟨j+1,by omega,by go_num,HN1,hx12⟩
       case measure=>simp[intOf];omega
     | true =>
       have hxb:Ext w2 (w2.alloc (.cells #[.string xp] 9)):=(Ext.refl w2).alloc _
       have b3:=Blk.new w2 9 #[.string xp]
       have CN1:=Hy (fun W (h:Ext (w2.alloc (.cells #[.string xp] 9)) W)=>CN.out W (hx12.trans (hxb.trans h)) w2.heap.size (h.cell (b3.cell 0)))
       go_wp2_with fail
       refine (CN1.out _ (Ext.refl _)).mono ?_
       rintro e w4 ⟨rfl,hx4⟩
       have hx14:=hx12.trans (hxb.trans hx4)
       have e4:=(b3.ext hx4).cell;have l4':=(b3.ext hx4).lt
       clear e2 l2'
       cases NF with
       | true =>
         have HEE:=Hy (show E=11 from by rw[HE2.out,HBD.out (by rw[HV.out];simp),HV.out];simp)
         go_wp2
         go_ret
         exact⟨ret_int HEE.out.symm,hx01.trans hx14⟩
       | false =>
         go_wp2_with fail
         refine (CO.out _).mono ?_
         rintro e w' ⟨rfl,rfl⟩
         cases OW with
         | true =>
           have HEE:=Hy (show E=17 from by rw[HE2.out,HBD.out (by rw[HV.out];simp),HV.out];simp)
           go_wp2
           go_ret
           exact⟨ret_int HEE.out.symm,hx01.trans hx14⟩
         | false =>
           have HN1:=Hy (HNX.out (by rw[HV.out];rfl))
           go_wp2
           go_roundw
           case rel=>exact⟨j+1,by omega,by go_num,HN1,hx14⟩
           case measure=>simp[intOf];omega
    ·obtain rfl:j=k:=by omega
     have HEE:=Hy (show E=S from by rw[HE2.out];exact HZ2.out H0.out)
     have B2:=Hy (B0.out.ext hxr)
     have e2:=B2.out.cell;have l2':=B2.out.lt
     go_wp2_with fail
     refine (CS.out _ (hx01.trans hxr)).mono ?_
     rintro e w4 ⟨rfl,hx4⟩
     go_wp2
     go_ret
     exact⟨ret_int HEE.out.symm,hx01.trans (hxr.trans hx4)⟩
end
section
open Go.RowKit
open Go.Maps (Keyed has)
def NdMap (w0 w:World) (b n:Nat) (l:List Cmp):Prop :=
 ∃ F,HMap keyStr w b n F∧∀ k:ByteArray,(F k).isSome=isComp l k∧∃ A c,(F k).getD (.slice none 0 0)=.slice A (needsOf l k).length c∧RdX w0 A (needsOf l k)
namespace NdMap
variable {w0 w w':World} {b n:Nat} {l:List Cmp}
theorem ext (h:NdMap w0 w b n l) (hx:Ext w w'):NdMap w0 w' b n l:=by
 obtain⟨F,h,r⟩:=h
 exact⟨F,h.ext hx,r⟩
theorem far (h:NdMap w0 w b n l) {row:Option Nat} (hg:w.grownBy w' row) (hne:some b≠row):NdMap w0 w' b n l:=by
 obtain⟨F,h,r⟩:=h
 exact⟨F,h.far hg hne,r⟩
theorem lt (h:NdMap w0 w b n l):b < w.heap.size:=by
 obtain⟨F,h,_⟩:=h
 exact h.lt
theorem zero_texts (w:World):(zeroValue 77).run Tryz.prog w=.ok (.slice none 0 0) w:=by go_simp
theorem look (h:NdMap w0 w b n l) (k:ByteArray) (hk:k.size<=2097152) :
 ∃ A c,RdX w0 A (needsOf l k)∧(Instr.lookup 188 (.map (some b)) (.string k) true).run Tryz.prog w=.ok (.tuple #[.slice A (needsOf l k).length c,.bool (isComp l k)]) w∧(Instr.lookup 188 (.map (some b)) (.string k) false).run Tryz.prog w=.ok (.slice A (needsOf l k).length c) w:=by
 obtain⟨F,h,r⟩:=h
 obtain⟨h1,A,c,h2,h3⟩:=r k
 have hh:=h.look (m:=188) Tryz.underlying188 (zero_texts w) (v:=k) (show k.size<=maxLen by simp only[maxLen];omega)
 rw[h1,h2] at hh
 exact⟨A,c,h3,hh⟩
end NdMap
theorem find_at {l:List Cmp} (hnd:(l.map Cmp.name).Nodup) {F:ByteArray->Option Value} {w0:World} (h1:∀ i (hi:i < l.length),∃ A c,F l[i].name=some (.slice A l[i].needs.length c)∧RdX w0 A l[i].needs) (h2:∀ k,(∀ i (hi:i < l.length),l[i].name≠k)->F k=none) (k:ByteArray) :
 (F k).isSome=isComp l k∧∃ A c,(F k).getD (.slice none 0 0)=.slice A (needsOf l k).length c∧RdX w0 A (needsOf l k):=by
 rcases cmpAt_cases l k with ⟨i,hi,_,rfl⟩|⟨_,hno⟩
 ·obtain⟨A,c,e,hr⟩:=h1 i hi
  rw[e,isComp_at hi,needsOf_at hi hnd]
  exact⟨rfl,A,c,rfl,hr⟩
 ·have e:=h2 k fun i hi e=>by
   have:=isComp_at (l:=l) hi
   rw[e,hno] at this
   cases this
  rw[e,hno,needsOf_none hno]
  exact⟨rfl,none,0,rfl,fun h=>absurd rfl h⟩
set_option maxHeartbeats 16000000 in
set_option maxRecDepth 100000 in
theorem needsOf_any (p:Pkg) (A:Option Addr) (c:Nat) (A2:Option Addr) (c2:Nat) (A3:Option Addr) (c3:Nat) (A4:Option Addr) (c4:Nat) (w:World) (hr:RdC w A3 p.comps) (hl:p.comps.length<=2097152) (hsn:∀ c∈p.comps,c.name.size<=2097152) (hnd:(p.comps.map Cmp.name).Nodup) :
 Calls Tryz.prog 114 #[pkV p A c A2 c2 A3 c3 A4 c4] w fun e w'=>∃ b,e=.returned (.map (some b))∧w.heap.size<=b∧NdMap w w' b p.comps.length p.comps∧Ext w w':=by
 have HR:=Hy hr
 have HFA:=Hy (fun F=>find_at hnd (F:=F) (w0:=w))
 have HSN:=Hy (fun k (hk:k < p.comps.length)=>hsn _ (List.getElem_mem hk))
 have HNE:=Hy (fun i j (hi:i < p.comps.length) (hj:j < p.comps.length)=>name_inj hi hj hnd)
 clear hr hsn hnd
 obtain⟨pn,⟨v1,v2,v3,va⟩,pt,pe,pb,l,pm⟩:=p
 dsimp only[pkV] at *
 generalize pe.length=l1 at *
 generalize pb.length=l2 at *
 generalize pm.length=l4 at *
 generalize hn:l.length=n at hl ⊢
 have HN:=Hy hn
 clear hn
 have b0:=Blk.new w 76 #[.string pn,.int .i64 v1,.int .i64 v2,.int .i64 v3,.string va,.string pt,.slice A l1 c,.slice A2 l2 c2,.slice A3 n c3,.slice A4 l4 c4]
 have hx0:Ext w (w.alloc (.cells #[.string pn,.int .i64 v1,.int .i64 v2,.int .i64 v3,.string va,.string pt,.slice A l1 c,.slice A2 l2 c2,.slice A3 n c3,.slice A4 l4 c4] 76)):=(Ext.refl w).alloc _
 have hs0:(w.alloc (.cells #[.string pn,.int .i64 v1,.int .i64 v2,.int .i64 v3,.string va,.string pt,.slice A l1 c,.slice A2 l2 c2,.slice A3 n c3,.slice A4 l4 c4] 76)).heap.size=w.heap.size+1:=World.size_alloc _ _
 generalize hW0:w.alloc (.cells #[.string pn,.int .i64 v1,.int .i64 v2,.int .i64 v3,.string va,.string pt,.slice A l1 c,.slice A2 l2 c2,.slice A3 n c3,.slice A4 l4 c4] 76)=W0 at *
 have HW0:=Hy hW0
 have HM0:=Hy (HMap.made (κ:=keyStr) W0)
 rw[hs0] at HM0
 have hxm:Ext W0 (W0.alloc (.map #[] 0)):=(Ext.refl W0).alloc _
 have b0a:=b0.ext hxm
 have e0:=b0a.cell;have l0:=b0a.lt
 have hmm:=@run_makeMap Tryz.prog
 clear hW0
 go_enter Tryz.func114,Tryz.ntmps114
 go_wp2_with fail
 rw[HW0.out]
 go_wp2
 clear hmm e0 l0
 go_loopw [10] (fun i wr=>∃ k:Nat,k<=n∧i=.int .i64 k∧Hid (∃ F,HMap keyStr wr (w.heap.size+1) k F∧(∀ i (hi:i < l.length),i < k->∃ A c,F l[i].name=some (.slice A l[i].needs.length c)∧RdX w A l[i].needs)∧∀ x,(∀ i (hi:i < l.length),i < k->l[i].name≠x)->F x=none)∧Ext w wr) (fun i _=>n - (intOf i).toNat)
 case atStart=>exact⟨0,Nat.zero_le _,rfl,Hy ⟨_,HM0.out,(fun _ _ h=>absurd h (Nat.not_lt_zero _)),(fun _ _=>rfl)⟩,hx0.trans hxm⟩
 case round =>
  obtain⟨k,hk,rfl,HF,hxr⟩:=hrel
  obtain⟨wo,rfl⟩:∃ wo:World,wo=wr:=⟨_,rfl⟩
  by_cases hlt:k < n
  ·have hk1:k < l.length:=by rw[HN.out];exact hlt
   obtain⟨b,o,rfl,hX⟩:=HR.out (fun e=>by rw[e] at hk1;exact absurd hk1 (Nat.not_lt_zero _))
   obtain⟨k0,n0,x0,A5,m5,c5,A6,c6,A7,c7,A8,c8,hrow⟩:=hX k hk1
   have LD:=load_Cm (hrow.ext hxr)
   have HIN:=Hy hrow.has.needs
   have hsz:=HSN.out k hk1
   obtain⟨F,hm,h1,h2⟩:=HF.out
   have hxa:∀ o,Ext wo (wo.alloc o):=fun o=>(Ext.refl wo).alloc o
   have HUP:=Hy (fun W (h:Ext wo W)=>(hm.ext h).upd (m:=188) Tryz.underlying188 (v:=l[k].name) (show l[k].name.size<=maxLen by simp only[maxLen];omega) (.slice A6 l[k].needs.length c6) (by omega))
   have HNX:=Hy (show ∀ W,HMap keyStr W (w.heap.size+1) (k+1) (setK F l[k].name (.slice A6 l[k].needs.length c6))->∃ F,HMap keyStr W (w.heap.size+1) (k+1) F∧(∀ i (hi:i < l.length),i < k+1->∃ A c,F l[i].name=some (.slice A l[i].needs.length c)∧RdX w A l[i].needs)∧∀ x,(∀ i (hi:i < l.length),i < k+1->l[i].name≠x)->F x=none from fun W hW=>by
    refine⟨_,hW,fun i hi hik=>?_,fun x hx=>?_⟩
    ·rcases Nat.lt_or_ge i k with h|h
     ·rw[setK_ne (fun e=>by have:=HNE.out i k hi hk1 e;omega)]
      exact h1 i hi h
     ·obtain rfl:i=k:=by omega
      rw[setK_same]
      exact⟨A6,c6,rfl,HIN.out⟩
    ·rw[setK_ne (fun e=>hx k hk1 (by omega) e.symm)]
     exact h2 x fun i hi hik=>hx i hi (by omega))
   clear hX hrow HF hm h1 h2 HIN
   generalize l[k]=q at *
   obtain⟨qn,qt,qd,qa,qw,qe,qi,qs⟩:=q
   dsimp only[cmV] at *
   generalize qe.length=l6 at *
   generalize qi.length=l7 at *
   generalize qs.length=l8 at *
   have b1:=Blk.new wo 82 #[.string qn,.string qt,.bool qd,.bool qa,.int .i64 k0,.string n0,.string x0,.slice A5 m5 c5,.slice A6 l6 c6,.slice A7 l7 c7,.slice A8 l8 c8]
   have hxb:Ext wo (wo.alloc (.cells #[.string qn,.string qt,.bool qd,.bool qa,.int .i64 k0,.string n0,.string x0,.slice A5 m5 c5,.slice A6 l6 c6,.slice A7 l7 c7,.slice A8 l8 c8] 82)):=hxa _
   generalize hW1:wo.alloc (.cells #[.string qn,.string qt,.bool qd,.bool qa,.int .i64 k0,.string n0,.string x0,.slice A5 m5 c5,.slice A6 l6 c6,.slice A7 l7 c7,.slice A8 l8 c8] 82)=W1 at *
   have HW1:=Hy hW1
   clear hW1 hxa
   have e1:=b1.cell;have l1':=b1.lt
   obtain⟨w2,hr2,hm2,hg2⟩:=HUP.out W1 hxb
   have hr2:(Instr.mapUpdate 188 (.map (some (w.heap.size+1))) (.string qn) (.slice A6 l6 c6)).run Tryz.prog W1=.ok () w2:=hr2
   have HF2:=Hy (HNX.out w2 hm2)
   have hx2:=(hxr.trans hxb).row hg2 (by omega)
   clear hm2 hg2 HUP HNX
   go_wp2_with (first|(rw[HW1.out])|(refine wpList_load_at rfl _ _ rfl _ rfl _ LD ?_))
   go_roundw
   case rel=>exact⟨k+1,by omega,by go_num,HF2,hx2⟩
   case measure=>simp[intOf];omega
  ·obtain rfl:k=n:=by omega
   obtain⟨F,hm,h1,h2⟩:=HF.out
   have HND:=Hy (show NdMap w wo (w.heap.size+1) k l from ⟨F,hm,HFA.out F (fun i hi=>h1 i hi (by rw[<-HN.out];exact hi)) (fun x hx=>h2 x (fun i hi _=>hx i hi))⟩)
   clear hm h1 h2 HF
   go_wp2
   go_ret
   exact⟨w.heap.size+1,rfl,by omega,HND.out,hxr⟩
end
section
open Go.RowKit
open Go.Maps (Keyed has)
theorem KSet.updB {w:World} {b n:Nat} {L:List Str} (h:KSet w b n L) {t:TypeId} (ht:Tryz.prog.underlying t=some (.map 9 4)) (k:ByteArray) (hk:k.size<=4194304) (hn:n<=200000000) :
 ∃ w',(Instr.mapUpdate t (.map (some b)) (.string k) (.bool true)).run Tryz.prog w=.ok () w'∧KSet w' b (n+1) (L++[bs k])∧w.grownBy w' (some b):=by
 obtain⟨D,h,r⟩:=h
 have hkey:keyOf Tryz.prog 9 (.string k)=some (.string (bs k)):=WideMaps.keyOf_string_mk str_under (by simp only[maxLen];omega)
 obtain⟨w',hrun,h',hg⟩:=h.update (Maps.string_keyed str_under) ht (by simp only[maxLen];omega) hkey (plainElem_bool bool_under true)
 refine⟨w',hrun,⟨_,h',fun s=>?_⟩,hg⟩
 by_cases e:s=bs k
 ·subst e
  exact⟨fun _=>⟨Maps.has_put_same h.isMap (by trivial) _,fun z=>Maps.atKey_put_same h.isMap (by trivial) _ _⟩,fun hn=>absurd (by simp) hn⟩
 ·have hne:(Lit.string s:Lit)≠.string (bs k):=by intro e2;injection e2 with e2;exact e e2
  have hm:s∈L++[bs k]↔s∈L:=by simp[e]
  rw[hm,Maps.has_put_other hne]
  exact⟨fun hs=>⟨((r s).1 hs).1,fun z=>by rw[Maps.atKey_put_other hne];exact ((r s).1 hs).2 z⟩,(r s).2⟩
theorem mem_bs {L:List ByteArray} {x:ByteArray}:bs x∈L.map bs↔x∈L:=by
 rw[List.mem_map]
 exact⟨fun ⟨y,hy,e⟩=>by rw[<-bs_inj e];exact hy,fun h=>⟨x,h,rfl⟩⟩
abbrev ldCaps (z:Nat):Array Value:=#[.pointer (some ⟨z,0,none⟩),.pointer (some ⟨z+2,0,none⟩),.pointer (some ⟨z+3,0,none⟩)]
structure LdSt (w0 w1:World) (z bA nA:Nat) (l:List Cmp) (N:Nat) (L:List ByteArray) (w:World):Prop where
 qA:Blk w z 188 #[.map (some bA)]
 qS:Blk w (z+2) 191 #[.map (some (z+1))]
 qW:Blk w (z+3) 211 #[.func (.func 198) #[] (ldCaps z)]
 mA:NdMap w0 w bA nA l
 mS:KSet w (z+1) N (L.map bs)
 x0:Ext w0 w
 x1:Ext w1 w
 z0:w0.heap.size<=z
 z1:w1.heap.size<=z
 za:bA < z
namespace LdSt
variable {w0 w1 w w':World} {z bA nA N N':Nat} {l:List Cmp} {L L':List ByteArray}
theorem ext (h:LdSt w0 w1 z bA nA l N L w) (hx:Ext w w'):LdSt w0 w1 z bA nA l N L w' :=
 ⟨h.qA.ext hx,h.qS.ext hx,h.qW.ext hx,h.mA.ext hx,h.mS.ext hx,h.x0.trans hx,h.x1.trans hx,h.z0,h.z1,h.za⟩
theorem upd (h:LdSt w0 w1 z bA nA l N L w) (hg:w.grownBy w' (some (z+1))) (hm:KSet w' (z+1) N' (L'.map bs)):LdSt w0 w1 z bA nA l N' L' w':=by
 have za:=h.za
 have z0:=h.z0
 have z1:=h.z1
 exact⟨h.qA.turned hg (by simp),h.qS.turned hg (by simp),h.qW.turned hg (by simp),h.mA.far hg (by simp;omega),hm,h.x0.row hg (by omega),h.x1.row hg (by omega),z0,z1,za⟩
end LdSt
set_option maxHeartbeats 16000000 in
set_option maxRecDepth 100000 in
theorem walkLd_any (w0 w1:World) (z bA nA:Nat) (l:List Cmp) (hsz:∀ k,(needsOf l k).length<=2097152∧∀ x∈needsOf l k,x.size<=2097152) :
 ∀ (g:Nat) (a:ByteArray) (L:List ByteArray) (N:Nat) (w:World),freeN l L<=g->N<=L.length->L.length+freeN l L<=100000000->a.size<=2097152->LdSt w0 w1 z bA nA l N L w ->
  Calls Tryz.prog 198 (#[.string a]++ldCaps z) w fun e w'=>e=.returned (.tuple #[])∧∃ L' N',Dfs l a L L' (needsOf l a).length∧N'<=L'.length∧L'.length+freeN l L'<=L.length+freeN l L∧LdSt w0 w1 z bA nA l N' L' w':=by
 intro g
 induction g using Nat.strongRecOn with
 | ind g ih =>
   intro a L N w hfr hN hsum ha hst
   have HIH:=Hy ih
   obtain⟨A,c,hrx,_,hlk⟩:=hst.mA.look a ha
   have HRX:=Hy hrx
   have HSZ:=Hy hsz
   have hnl:=(hsz a).1
   have HSU:=Hy (hsz a).2
   have HST:=Hy hst
   have HD0:=Hy (Dfs.init (l:=l) (a:=a) (L0:=L))
   have HDS:=Hy (fun (Lj:List ByteArray) j=>Dfs.skip (l:=l) (a:=a) (L0:=L) (L:=Lj) (j:=j))
   have HDD:=Hy (fun (Lj L':List ByteArray) j=>Dfs.down (l:=l) (a:=a) (L0:=L) (L:=Lj) (L':=L') (j:=j))
   have HFL:=Hy (fun (Lj:List ByteArray) x=>freeN_lt (l:=l) (L:=Lj) (a:=a) (x:=x))
   have HFM:=Hy (fun (Lj:List ByteArray) j (h:Dfs l a L Lj j)=>freeN_le (l:=l) h.sub)
   have cA:=hst.qA.cell;have lA:=hst.qA.lt
   clear ih hrx hsz hst
   generalize hNE:needsOf l a=ne at *
   clear hNE
   obtain⟨nn,hnn⟩:∃ nn,nn=ne.length:=⟨_,rfl⟩
   rw[<-hnn] at hlk hnl ⊢
   have HNN:=Hy hnn
   clear hnn
   go_enter Tryz.func198,Tryz.ntmps198
   go_wp2
   clear cA lA hlk
   go_loopw [11] (fun t wr=>∃ (j:Nat) (Lj:List ByteArray) (Nj:Nat),t=.int .i64 j∧j<=nn∧Hid (Dfs l a L Lj j)∧Nj<=Lj.length∧Lj.length+freeN l Lj<=L.length+freeN l L∧Hid (LdSt w0 w1 z bA nA l Nj Lj wr)) (fun t _=>nn - (intOf t).toNat)
   case atStart=>exact⟨0,L,N,rfl,Nat.zero_le _,HD0,hN,Nat.le_refl _,HST⟩
   case round =>
    obtain⟨j,Lj,Nj,rfl,hj,HD,hNj,hsj,HSj⟩:=hrel
    obtain⟨wo,rfl⟩:∃ wo:World,wo=wr:=⟨_,rfl⟩
    have cS:=HSj.out.qS.cell;have lS:=HSj.out.qS.lt
    have hfm:=HFM.out Lj j HD.out
    by_cases hlt:j < nn
    ·have hj1:j < ne.length:=by rw[<-HNN.out];exact hlt
     obtain⟨b,o,rfl,hX⟩:=(HRX.out.ext HSj.out.x0) (fun e=>by rw[e] at hj1;exact absurd hj1 (Nat.not_lt_zero _))
     have hc:=hX j hj1
     have hcl:=lt_of_cell hc
     have hxs:=HSU.out _ (List.getElem_mem hj1)
     have HSK:=Hy (fun h=>HDS.out Lj j HD.out hj1 h)
     have HDN:=Hy (fun L' h=>HDD.out Lj L' j HD.out hj1 h)
     have HFX:=Hy (HFL.out Lj ne[j] (List.getElem_mem hj1))
     clear hX
     generalize ne[j]=x at *
     have hlook:=HSj.out.mS.look (t:=191) Tryz.underlying191 x (by omega)
     by_cases hm:x∈Lj
     ·have HO:=Hy (HSK.out hm)
      rw[decide_eq_true (mem_bs.2 hm)] at hlook
      clear hm
      go_wp2
      go_roundw
      case rel=>exact⟨j+1,Lj,Nj,by go_num,by omega,HO,hNj,hsj,HSj⟩
      case measure=>simp[intOf];omega
     ·rw[decide_eq_false (fun h=>hm (mem_bs.1 h))] at hlook
      have hfx:=HFX.out hm
      obtain⟨w4,hr4,hm4,hg4⟩:=HSj.out.mS.updB (t:=191) Tryz.underlying191 x (by omega) (by omega)
      rw[show Lj.map bs++[bs x]=(Lj++[x]).map bs from by simp] at hm4
      have HS4:=Hy (HSj.out.upd hg4 hm4)
      have hln:(Lj++[x]).length=Lj.length+1:=by simp
      have HR:=Hy (HIH.out (freeN l (Lj++[x])) (by omega) x (Lj++[x]) (Nj+1) w4 (Nat.le_refl _) (by omega) (by omega) hxs HS4.out)
      have cS4:=HS4.out.qS.cell;have cW4:=HS4.out.qW.cell;have lS4:=HS4.out.qS.lt;have lW4:=HS4.out.qW.lt
      clear hm hm4 hg4
      go_wp2_with fail
      refine HR.out.mono ?_
      rintro e w5 ⟨rfl,L',N',hd',hN',hs',hst'⟩
      have HO:=Hy (HDN.out L' hd')
      have HST5:=Hy hst'
      clear cS4 cW4 lS4 lW4 hr4 hlook hc hcl cS lS
      go_wp2
      go_roundw
      case rel=>exact⟨j+1,L',N',by go_num,by omega,HO,hN',by omega,HST5⟩
      case measure=>simp[intOf];omega
    ·obtain rfl:j=nn:=by omega
     go_wp2
     exact bodyPost_end (results_none rfl _ _ _) rfl ⟨rfl,Lj,Nj,HD.out,hNj,hsj,HSj.out⟩
theorem needs_total (l:List Cmp) (h:∀ c∈l,c.needs.length<=2097152) (h30:l.length<=30):freeN l []<=62914560:=by
 unfold freeN
 have e:((l.flatMap Cmp.needs).filter fun x=>!memB x []).length<=(l.flatMap Cmp.needs).length:=List.length_filter_le _ _
 have h2:∀ l:List Cmp,(∀ c∈l,c.needs.length<=2097152)->(l.flatMap Cmp.needs).length<=l.length * 2097152:=fun l=>by
  induction l with
  | nil=>intro _;simp
  | cons c l ih =>
    intro h
    have h1:=h c (by simp)
    have h2:=ih fun d hd=>h d (List.mem_cons_of_mem _ hd)
    rw[List.flatMap_cons,List.length_append,List.length_cons]
    omega
 have:=h2 l h
 have:l.length * 2097152<=30 * 2097152:=Nat.mul_le_mul_right _ h30
 omega
theorem needs_small {l:List Cmp} (h1:∀ c∈l,c.needs.length<=2097152) (h2:∀ c∈l,∀ x∈c.needs,x.size<=2097152) (k:ByteArray):(needsOf l k).length<=2097152∧∀ x∈needsOf l k,x.size<=2097152:=by
 unfold needsOf
 split
 ·rename_i c hc
  have hm:=List.mem_of_find?_eq_some hc
  exact⟨h1 c hm,h2 c hm⟩
 ·exact⟨by simp,fun x hx=>by cases hx⟩
set_option maxHeartbeats 16000000 in
set_option maxRecDepth 100000 in
theorem leads_any (w0:World) (bA nA:Nat) (l:List Cmp) (a:ByteArray) (w:World) (hsz:∀ k,(needsOf l k).length<=2097152∧∀ x∈needsOf l k,x.size<=2097152) (ht:freeN l []<=62914560) (ha:a.size<=2097152) (hx0:Ext w0 w) (hm:NdMap w0 w bA nA l) :
 Calls Tryz.prog 115 #[.map (some bA),.string a] w fun e w'=>∃ (s N:Nat) (L:List ByteArray),e=.returned (.map (some s))∧w.heap.size<=s∧KSet w' s N (L.map bs)∧N<=62914560∧(∀ x,x∈L↔Leads l a x)∧Ext w w':=by
 have HW:=Hy (walkLd_any w0 w w.heap.size bA nA l hsz (freeN l []) a [] 0)
 have HAL:=Hy (fun L=>Dfs.all (l:=l) (a:=a) (L:=L))
 have hlt:=hm.lt
 have h00:=hx0.size
 let W1:=w.alloc (.cells #[.map (some bA)] 188)
 let W2:=W1.alloc (.map #[] 0)
 let W3:=W2.alloc (.cells #[.map (some (w.heap.size+1))] 191)
 let W4:=W3.alloc (.cells #[.func (.func 198) #[] (ldCaps w.heap.size)] 211)
 have s1:W1.heap.size=w.heap.size+1:=World.size_alloc _ _
 have s2:W2.heap.size=w.heap.size+2:=by rw[World.size_alloc,s1]
 have s3:W3.heap.size=w.heap.size+3:=by rw[World.size_alloc,s2]
 have HST:=Hy (show LdSt w0 w w.heap.size bA nA l 0 [] W4 from by
  have x1:Ext w W1:=(Ext.refl w).alloc _
  have x2:Ext W1 W2:=(Ext.refl W1).alloc _
  have x3:Ext W2 W3:=(Ext.refl W2).alloc _
  have x4:Ext W3 W4:=(Ext.refl W3).alloc _
  have hk:=KSet.made W1
  rw[s1] at hk
  have b3:=Blk.new W2 191 #[.map (some (w.heap.size+1))]
  rw[s2] at b3
  have b4:=Blk.new W3 211 #[.func (.func 198) #[] (ldCaps w.heap.size)]
  rw[s3] at b4
  have xx:=x1.trans (x2.trans (x3.trans x4))
  exact⟨(Blk.new w 188 #[.map (some bA)]).ext (x2.trans (x3.trans x4)),b3.ext x4,b4,hm.ext xx,hk.ext (x3.trans x4),hx0.trans xx,xx,h00,Nat.le_refl _,hlt⟩)
 have HC:=Hy (HW.out W4 (Nat.le_refl _) (Nat.le_refl _) (by simp;omega) ha HST.out)
 have hmm:=@run_makeMap Tryz.prog
 have c3:=HST.out.qS.cell;have l3:=HST.out.qS.lt;have c4:=HST.out.qW.cell;have l4:=HST.out.qW.lt
 clear hm hx0
 go_enter Tryz.func115,Tryz.ntmps115
 go_wp2_with fail
 refine HC.out.mono ?_
 rintro e w5 ⟨rfl,L',N',hd',hN',hs',hst'⟩
 have c5:=hst'.qS.cell;have l5:=hst'.qS.lt
 have HO:=Hy (HAL.out L' hd')
 have HST5:=Hy hst'
 clear c3 l3 c4 l4 hst' hd'
 go_wp2
 go_ret
 exact⟨w.heap.size+1,N',L',rfl,by omega,HST5.out.mS,by simp at hs';omega,HO.out,HST5.out.x1⟩
end
end Go.Proofs.YtmpccllnpcbgcaaGreatDoor
