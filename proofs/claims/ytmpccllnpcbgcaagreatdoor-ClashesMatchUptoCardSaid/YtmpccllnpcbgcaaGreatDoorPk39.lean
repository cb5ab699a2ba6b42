/- Contract of outref2.placesError. -/
import Derived.Test.YtmpccllnpcbgcaaGreatDoorPk36
import Derived.Test.YtmpccllnpcbgcaaGreatDoorPk33
import Derived.Test.YtmpccllnpcbgcaaGreatDoorPk35
namespace Go.Proofs.YtmpccllnpcbgcaaGreatDoor
open Go.RowKit
theorem HMap.ne {t:TypeId} {K:Type} {κ:KeyT t K} {w:World} {b n g:Nat} {f:K->Option Value} {u:TypeId} {cs:Array Value} (h:HMap κ w b n f) (k:Blk w g u cs):g≠b:=fun e=>by
 obtain⟨D,⟨es,clock,hb,_⟩,_⟩:=h
 unfold Blk at k
 rw[e,hb] at k
 cases k
theorem keyPair_val {t:TypeId} (h:PairT t) (k:Int × ByteArray):(keyPair h).val k=.agg #[.int .i64 k.1,.string k.2]:=rfl
theorem grown_ext0 {w w':World} (hg:w.grownBy w' none):Ext w w':=⟨hg.os,hg.tape,hg.output,hg.size,fun k hk=>hg.block k hk (by simp)⟩
structure PlSt (w0:World) (bP:Nat) (pc:Array Value) (bC:Nat) (cc:Array Value) (bM N:Nat) (E:List Ent) (w:World):Prop where
 p:Blk w bP 76 pc
 c:Blk w bC 82 cc
 m:HMap (keyPair pair_spot) w bM N (lookF E)
 x:Ext w0 w
 hM:w0.heap.size<=bM
namespace PlSt
variable {w0 w w':World} {bP bC bM N N':Nat} {pc cc:Array Value} {E E':List Ent}
theorem ext (h:PlSt w0 bP pc bC cc bM N E w) (hx:Ext w w'):PlSt w0 bP pc bC cc bM N E w':=⟨h.p.ext hx,h.c.ext hx,h.m.ext hx,h.x.trans hx,h.hM⟩
theorem upd (h:PlSt w0 bP pc bC cc bM N E w) (hg:w.grownBy w' (some bM)) (hm:HMap (keyPair pair_spot) w' bM N' (lookF E')):PlSt w0 bP pc bC cc bM N' E' w' :=
 ⟨h.p.turned hg (by simpa using h.m.ne h.p),h.c.turned hg (by simpa using h.m.ne h.c),hm,h.x.row hg h.hM,h.hM⟩
theorem congr (h:PlSt w0 bP pc bC cc bM N E w) (e:E=E') (hn:N<=N'):PlSt w0 bP pc bC cc bM N' E' w:=⟨h.p,h.c,e ▸ h.m.mono hn,h.x,h.hM⟩
end PlSt
def nearK (p:ByteArray) (t:Int × ByteArray):Bool:=decide (t.1=1)&&(belowL (bs p) (bs t.2)||belowL (bs t.2) (bs p))
noncomputable def ownK (l:List Cmp) (nm:ByteArray) (v:Option Value):Bool:=match v with|some (.string o)=>decide (o=nm)||leadsB l nm o|_=>false
theorem ownK_svc {l:List Cmp} (hnd:(l.map Cmp.name).Nodup) (hn:((itemsL l).map spotP).Nodup) {k:Nat} (hk:k < l.length) :
 (∀ j (hj:j < l[k].items.length),l[k].items[j].kind=6->ownK l l[k].name (lookF (entsL l) (1,l[k].items[j].sp))=false->svcAt l k=10) ∧
 ((∀ j (hj:j < l[k].items.length),(!decide (l[k].items[j].kind=6)||ownK l l[k].name (lookF (entsL l) (1,l[k].items[j].sp)))=true)->svcAt l k=0):=by
 have e:svcAt l k=if l[k].items.all (fun x=>!decide (x.kind=6)||ownK l l[k].name (lookF (entsL l) (1,x.sp)))=true then 0 else 10:=svcAt_look hnd hn hk
 refine⟨fun j hj h6 h=>?_,fun h=>?_⟩
 ·rw[e,if_neg]
  rw[Bool.not_eq_true,List.all_eq_false]
  exact⟨_,List.getElem_mem hj,by rw[h,h6];decide⟩
 ·rw[e,if_pos]
  rw[List.all_eq_true]
  intro x hx
  obtain⟨j,hj,rfl⟩:=List.mem_iff_getElem.1 hx
  exact h j hj
theorem fileAt_key {l:List Cmp} {i:Nat} (hi:i < (itemsL l).length):fileAt (itemsL l) i=if decide ((spotP (itemsL l)[i]).1=1)=false then 0 else if ((entsL l).map Prod.fst).any (nearK (spotP (itemsL l)[i]).2)=true then 11 else if ownL (bs (spotP (itemsL l)[i]).2)=true then 17 else 0:=by
 rw[fileAt_eq hi]
 generalize (itemsL l)[i]=y
 by_cases h:spotK y=1
 ·have hp:spotN y=y.path:=by
   have hs:=h
   unfold spotK at hs
   unfold spotN
   split at hs
   ·cases hs
   ·rename_i h5
    split at hs
    ·cases hs
    ·rename_i h6
     rw[if_neg h5,if_neg h6]
  have e:(spotP y).2=y.path:=hp
  rw[e,near_any]
  rfl
 ·have:decide ((spotP y).1=1)=false:=decide_eq_false h
  rw[decide_eq_false h,this,if_pos rfl,if_pos rfl]
theorem places_f2 (l:List Cmp):placesErr l=f2 (firstN (itemsL l).length (twiceAt (itemsL l))) (f2 (firstN (itemsL l).length (fileAt (itemsL l))) (firstN l.length (svcAt l))):=by
 unfold placesErr
 rw[firstI_f2,firstI_f2,firstI_f2,firstI_nil,f2_zero]
 rfl
theorem f2_ne {a:Int} (b:Int) (h:¬ a=0):f2 a b=a:=if_neg h
theorem spotN_small {x:Itm} (h:SmallI x):(spotN x).size<=2097152:=by
 unfold spotN
 split
 ·exact h.key
 ·split
  ·exact h.sn
  ·exact h.path
theorem lookF_str {E:List Ent} {t:Int × ByteArray} {v:Value} (h:lookF E t=some v):∃ o,v=.string o∧(t,o)∈E:=by
 unfold lookF at h
 rw[Option.map_eq_some_iff] at h
 obtain⟨e,hf,rfl⟩:=h
 have:=List.find?_some hf
 rw[decide_eq_true_eq] at this
 exact⟨e.2,rfl,by rw[<-this];exact List.mem_of_find?_eq_some hf⟩
theorem ents_owner {l:List Cmp} {e:Ent} (h:e∈entsL l):∃ c∈l,e.2=c.name∧∃ x∈c.items,e.1=spotP x:=by
 unfold entsL at h
 obtain⟨c,hc,he⟩:=List.mem_flatMap.1 h
 unfold entsC at he
 rw[List.take_length] at he
 obtain⟨x,hx,rfl⟩:=List.mem_map.1 he
 exact⟨c,hc,rfl,x,hx,rfl⟩
theorem near_none {E:List Ent} {p:ByteArray} (h:∀ t,(lookF E t).isSome=true->nearK p t=false):(E.map Prod.fst).any (nearK p)=false:=by
 rw[List.any_eq_false]
 intro t ht
 rw[h t (by rw[lookF_isSome];exact inP_iff.2 ht)]
 decide
theorem near_some {E:List Ent} {p:ByteArray} {t:Int × ByteArray} (h:(lookF E t).isSome=true) (hn:nearK p t=true):(E.map Prod.fst).any (nearK p)=true:=by
 rw[List.any_eq_true]
 rw[lookF_isSome] at h
 exact⟨t,inP_iff.1 h,hn⟩
set_option maxHeartbeats 64000000 in
set_option maxRecDepth 100000 in
theorem placesError_any (p:Pkg) (A:Option Addr) (c:Nat) (A2:Option Addr) (c2:Nat) (A3:Option Addr) (c3:Nat) (A4:Option Addr) (c4:Nat) (w0:World) (bA nA:Nat) (w:World) (hg:Good w) (hr:RdC w A3 p.comps) (hl:p.comps.length<=2097152) (hnd:(p.comps.map Cmp.name).Nodup) (hit:∀ c∈p.comps,∀ x∈c.items,SmallI x) (hall:(itemsL p.comps).length<=2097152) (hsn:∀ c∈p.comps,c.name.size<=2097152)
 (hsz:∀ k,(needsOf p.comps k).length<=2097152∧∀ x∈needsOf p.comps k,x.size<=2097152) (ht:freeN p.comps []<=62914560) (hx00:Ext w0 w) (hma:NdMap w0 w bA nA p.comps) :
 Calls Tryz.prog 116 #[pkV p A c A2 c2 A3 c3 A4 c4,.map (some bA)] w fun e w'=>e=.returned (.int .i64 (placesErr p.comps))∧Ext w w':=by
 have HR:=Hy hr
 have HG:=Hy hg
 have CL:=Hy (fun W (h:Ext w W) a (ha:a.size<=2097152)=>leads_any w0 bA nA p.comps a W hsz ht ha (hx00.trans h) (hma.ext h))
 have HIX:=Hy (fun k j (hk:k < p.comps.length) (hj:j < p.comps[k].items.length)=>itemsL_ix (l:=p.comps) hk hj)
 have HSM:=Hy (fun k (hk:k < p.comps.length)=>hit p.comps[k] (List.getElem_mem hk))
 have HSN:=Hy (fun k (hk:k < p.comps.length)=>hsn _ (List.getElem_mem hk))
 have HLE:=Hy (itemsL_le p.comps)
 have HLT:=Hy (itemsL_take p.comps)
 have HES:=Hy (fun k (hk:k < p.comps.length)=>entsL_succ hk)
 have HEF:=Hy (fun k=>entsL_fst (p.comps.take k))
 have HSV:=Hy (fun hn k (hk:k < p.comps.length)=>ownK_svc hnd hn hk)
 have HT1:=Hy (fun k=>twiceAt_eq (l:=itemsL p.comps) (k:=k))
 have HT2:=Hy (fun i (hi:i < (itemsL p.comps).length)=>fileAt_key hi)
 have HPN:=Hy (places_nd (I:=itemsL p.comps))
 have HSI:=Hy (itemsL_small hit)
 have HKS:=Hy (show ∀ t,(lookF (entsL p.comps) t).isSome=true->OkP t∧t.2.size<=2097152 from fun t h=>by
  obtain⟨v,hv⟩:=Option.isSome_iff_exists.1 h
  obtain⟨o,_,hm⟩:=lookF_str hv
  obtain⟨c,hc,_,x,hx,e⟩:=ents_owner hm
  have e:t=spotP x:=e
  rw[e]
  exact⟨okP_spot (hit c hc x hx),spotN_small (hit c hc x hx)⟩)
 have HOS:=Hy (show ∀ t o,lookF (entsL p.comps) t=some (.string o)->o.size<=2097152 from fun t o h=>by
  obtain⟨o',e',hm⟩:=lookF_str h
  injection e' with e'
  obtain⟨c,hc,e,_⟩:=ents_owner hm
  have e:o'=c.name:=e
  rw[e',e]
  exact hsn c hc)
 have HNT:=Hy (fun k=>firstN_at (n:=(itemsL p.comps).length) (f:=twiceAt (itemsL p.comps)) (k:=k))
 have HNF:=Hy (fun k=>firstN_at (n:=(itemsL p.comps).length) (f:=fileAt (itemsL p.comps)) (k:=k))
 have HNS:=Hy (fun k=>firstN_at (n:=p.comps.length) (f:=svcAt p.comps) (k:=k))
 have HZT:=Hy (firstN_zero (n:=(itemsL p.comps).length) (f:=twiceAt (itemsL p.comps)))
 have HZF:=Hy (firstN_zero (n:=(itemsL p.comps).length) (f:=fileAt (itemsL p.comps)))
 have HZS:=Hy (firstN_zero (n:=p.comps.length) (f:=svcAt p.comps))
 obtain⟨E,hE⟩:∃ E,E=placesErr p.comps:=⟨_,rfl⟩
 rw[<-hE]
 have HE:=Hy (show E=f2 (firstN (itemsL p.comps).length (twiceAt (itemsL p.comps))) (f2 (firstN (itemsL p.comps).length (fileAt (itemsL p.comps))) (firstN p.comps.length (svcAt p.comps))) from by rw[hE];exact places_f2 _)
 clear hE hr hg hnd hit hsn hsz hma
 obtain⟨pn,⟨v1,v2,v3,va⟩,pt,pe,pb,l,pm⟩:=p
 dsimp only[pkV] at *
 generalize pe.length=l1 at *
 generalize pb.length=l2 at *
 generalize pm.length=l4 at *
 generalize hn:l.length=n at hl ⊢
 have HN:=Hy hn
 clear hn
 have b0:=Blk.new w 76 #[.string pn,.int .i64 v1,.int .i64 v2,.int .i64 v3,.string va,.string pt,.slice A l1 c,.slice A2 l2 c2,.slice A3 n c3,.slice A4 l4 c4]
 have hx0:Ext w (w.alloc (.cells #[.string pn,.int .i64 v1,.int .i64 v2,.int .i64 v3,.string va,.string pt,.slice A l1 c,.slice A2 l2 c2,.slice A3 n c3,.slice A4 l4 c4] 76)):=(Ext.refl w).alloc _
 have hs0:(w.alloc (.cells #[.string pn,.int .i64 v1,.int .i64 v2,.int .i64 v3,.string va,.string pt,.slice A l1 c,.slice A2 l2 c2,.slice A3 n c3,.slice A4 l4 c4] 76)).heap.size=w.heap.size+1:=World.size_alloc _ _
 generalize hW0:w.alloc (.cells #[.string pn,.int .i64 v1,.int .i64 v2,.int .i64 v3,.string va,.string pt,.slice A l1 c,.slice A2 l2 c2,.slice A3 n c3,.slice A4 l4 c4] 76)=W0 at *
 have HW0:=Hy hW0
 have HM0:=Hy ((HMap.made (κ:=keyPair pair_spot) W0).congr (g:=lookF (entsL (l.take 0))) (fun _=>rfl))
 rw[hs0] at HM0
 have hxm:Ext W0 (W0.alloc (.map #[] 0)):=(Ext.refl W0).alloc _
 have b0a:=b0.ext hxm
 have e0:=b0a.cell;have l0:=b0a.lt;have e00:=b0.cell;have l00:=b0.lt
 have hmm:=@run_makeMap Tryz.prog
 have B0:=Hy b0a
 clear hW0 b0
 go_enter Tryz.func116,Tryz.ntmps116
 go_wp2_with fail
 rw[HW0.out]
 go_wp2
 clear hmm e0 l0 e00 l00 b0a
 go_loopw [32] (fun i wr=>∃ k:Nat,k<=n∧i=.int .i64 k∧Hid (∀ t,t < (itemsL (l.take k)).length->twiceAt (itemsL l) t=0)∧Hid (HMap (keyPair pair_spot) wr (w.heap.size+1) (itemsL (l.take k)).length (lookF (entsL (l.take k))))∧Hid (Blk wr w.heap.size 76 #[.string pn,.int .i64 v1,.int .i64 v2,.int .i64 v3,.string va,.string pt,.slice A l1 c,.slice A2 l2 c2,.slice A3 n c3,.slice A4 l4 c4])∧Ext w wr) (fun i _=>n - (intOf i).toNat)
 case atStart=>exact⟨0,Nat.zero_le _,rfl,Hy (fun t h=>absurd h (Nat.not_lt_zero _)),HM0,B0,hx0.trans hxm⟩
 case round =>
  obtain⟨k,hk,rfl,H0,HM,B2,hxr⟩:=hrel
  obtain⟨wo,rfl⟩:∃ wo:World,wo=wr:=⟨_,rfl⟩
  by_cases hlt:k < n
  ·have hk1:k < l.length:=by rw[HN.out];exact hlt
   obtain⟨b,o,rfl,hX⟩:=HR.out (fun e=>by rw[e] at hk1;exact absurd hk1 (Nat.not_lt_zero _))
   obtain⟨k0,n0,x0,A5,m5,c5,A6,c6,A7,c7,A8,c8,hrow⟩:=hX k hk1
   have LD:=load_Cm (hrow.ext hxr)
   have HII:=Hy hrow.has.items
   have hle:=HLE.out (k+1)
   have HLL:=Hy (show (itemsL (l.take (k+1))).length=(itemsL (l.take k)).length+l[k].items.length from by rw[HLT.out k hk1,List.length_append])
   rw[HLL.out] at hle
   have HIXK:=Hy (fun j=>HIX.out k j hk1)
   have HSMK:=Hy (HSM.out k hk1)
   have HESK:=Hy (HES.out k hk1)
   have HEFK:=Hy (HEF.out k)
   have HEC:=Hy (fun m (hm:m < l[k].items.length)=>entsC_succ l[k] hm)
   have HE0:=Hy (show entsL (l.take k)++entsC l[k] 0=entsL (l.take k) from by unfold entsC;simp)
   have HEN:=Hy (fun m=>entsC_fst l[k] m)
   clear hX hrow
   generalize l[k]=q at *
   obtain⟨qn,qt,qd,qa,qw,qe,qi,qs⟩:=q
   dsimp only[cmV] at *
   generalize qe.length=l6 at *
   generalize h7:qi.length=l7 at LD hle HLL HESK ⊢
   have H7:=Hy h7
   clear h7
   generalize qs.length=l8 at *
   have b1:=Blk.new wo 82 #[.string qn,.string qt,.bool qd,.bool qa,.int .i64 k0,.string n0,.string x0,.slice A5 m5 c5,.slice A6 l6 c6,.slice A7 l7 c7,.slice A8 l8 c8]
   have hxa:Ext wo (wo.alloc (.cells #[.string qn,.string qt,.bool qd,.bool qa,.int .i64 k0,.string n0,.string x0,.slice A5 m5 c5,.slice A6 l6 c6,.slice A7 l7 c7,.slice A8 l8 c8] 82)):=(Ext.refl wo).alloc _
   have hwo:=hxr.size
   have HST:=Hy (show PlSt w w.heap.size #[.string pn,.int .i64 v1,.int .i64 v2,.int .i64 v3,.string va,.string pt,.slice A l1 c,.slice A2 l2 c2,.slice (some ⟨b,o,none⟩) n c3,.slice A4 l4 c4] wo.heap.size #[.string qn,.string qt,.bool qd,.bool qa,.int .i64 k0,.string n0,.string x0,.slice A5 m5 c5,.slice A6 l6 c6,.slice A7 l7 c7,.slice A8 l8 c8] (w.heap.size+1) (itemsL (l.take k)).length (entsL (l.take k)++entsC ⟨qn,qt,qd,qa,qw,qe,qi,qs⟩ 0) (wo.alloc (.cells #[.string qn,.string qt,.bool qd,.bool qa,.int .i64 k0,.string n0,.string x0,.slice A5 m5 c5,.slice A6 l6 c6,.slice A7 l7 c7,.slice A8 l8 c8] 82)) from
    ⟨B2.out.ext hxa,b1,(HMap.congr (HM.out.ext hxa) (fun _=>by rw[HE0.out])),hxr.trans hxa,by omega⟩)
   generalize hW1:wo.alloc (.cells #[.string qn,.string qt,.bool qd,.bool qa,.int .i64 k0,.string n0,.string x0,.slice A5 m5 c5,.slice A6 l6 c6,.slice A7 l7 c7,.slice A8 l8 c8] 82)=W1 at *
   have HW1:=Hy hW1
   clear hW1
   have e1:=b1.cell;have l1':=b1.lt
   go_wp2_with (refine wpList_load_at rfl _ _ rfl _ rfl _ LD ?_)
   rw[HW1.out]
   clear LD e1 l1' b1
   go_loopw [39] (fun i wr=>∃ j:Nat,j<=l7∧i=.int .i64 j∧Hid (∀ t,t < (itemsL (l.take k)).length+j->twiceAt (itemsL l) t=0)∧Hid (PlSt w w.heap.size #[.string pn,.int .i64 v1,.int .i64 v2,.int .i64 v3,.string va,.string pt,.slice A l1 c,.slice A2 l2 c2,.slice (some ⟨b,o,none⟩) n c3,.slice A4 l4 c4] wo.heap.size #[.string qn,.string qt,.bool qd,.bool qa,.int .i64 k0,.string n0,.string x0,.slice A5 m5 c5,.slice A6 l6 c6,.slice A7 l7 c7,.slice A8 l8 c8] (w.heap.size+1) ((itemsL (l.take k)).length+j) (entsL (l.take k)++entsC ⟨qn,qt,qd,qa,qw,qe,qi,qs⟩ j) wr)) (fun i _=>l7 - (intOf i).toNat)
   case atStart=>exact⟨0,Nat.zero_le _,rfl,H0,HST⟩
   case round =>
    obtain⟨j,hj,rfl,HJ,HSj⟩:=hrel
    obtain⟨w7,rfl⟩:∃ w7:World,w7=wr:=⟨_,rfl⟩
    have hx7:=HSj.out.x
    by_cases hlt3:j < l7
    ·have hj1:j < qi.length:=by rw[H7.out];exact hlt3
     obtain⟨b7,o7,rfl⟩:=RdI.at HII.out hj1
     have LD:=load_It (RdI.row (HII.out.ext hx7) hj1)
     obtain⟨hix,hiy,hiz⟩:=HIXK.out j hj1
     have hsy:=HSMK.out qi[j] (List.getElem_mem hj1)
     have HOK:=Hy (okP_spot hsy)
     have CP:=Hy (fun W=>SpotOf_any qi[j] W)
     have HKEY:=Hy (show (entsL (l.take k)++entsC ⟨qn,qt,qd,qa,qw,qe,qi,qs⟩ j).map Prod.fst=((itemsL l).take ((itemsL (l.take k)).length+j)).map spotP from by rw[List.map_append,HEFK.out,HEN.out,hiz,List.map_append])
     have HV:=Hy (show twiceAt (itemsL l) ((itemsL (l.take k)).length+j)=if inP (spotP qi[j]) ((entsL (l.take k)++entsC ⟨qn,qt,qd,qa,qw,qe,qi,qs⟩ j).map Prod.fst)=true then 6 else 0 from by rw[HT1.out _ hix,hiy,HKEY.out])
     have HBD:=Hy (show twiceAt (itemsL l) ((itemsL (l.take k)).length+j)=6->E=6 from fun h=>by
      have h1:=HNT.out _ hix HJ.out (by rw[h];decide)
      rw[HE.out,h1,h]
      exact f2_ne _ (by decide))
     have HNX:=Hy (show twiceAt (itemsL l) ((itemsL (l.take k)).length+j)=0->∀ t,t < (itemsL (l.take k)).length+(j+1)->twiceAt (itemsL l) t=0 from fun h t ht=>by
      rcases Nat.lt_or_ge t ((itemsL (l.take k)).length+j) with h1|h1
      ·exact HJ.out t h1
      ·obtain rfl:t=(itemsL (l.take k)).length+j:=by omega
       exact h)
     have HADD:=Hy (show entsL (l.take k)++entsC ⟨qn,qt,qd,qa,qw,qe,qi,qs⟩ j++[(spotP qi[j],qn)]=entsL (l.take k)++entsC ⟨qn,qt,qd,qa,qw,qe,qi,qs⟩ (j+1) from by rw[HEC.out j hj1,List.append_assoc])
     clear hix hiy hiz hsy HKEY HJ
     generalize twiceAt (itemsL l) ((itemsL (l.take k)).length+j)=Z at *
     generalize qi[j]=y at *
     have HSP:=Hy (show spotP y=(spotK y,spotN y) from rfl)
     generalize spotK y=K at *
     generalize spotN y=N at *
     rw[HSP.out] at HV HOK HADD
     clear HSP
     generalize hEE:entsL (l.take k)++entsC ⟨qn,qt,qd,qa,qw,qe,qi,qs⟩ j=EN at *
     generalize hD:inP (K,N) (EN.map Prod.fst)=D at *
     have HD:=Hy hD
     obtain⟨xk,xp,xd,xr,xe,xv,xs,xq,xa,xo⟩:=y
     dsimp only[itmV] at *
     have hxi:Ext w7 (w7.alloc (.cells #[.int .i64 xk,.string xp,.string xd,.bool xr,.string xe,.string xv,.string xs,.string xq,.bool xa,.bool xo] 104)):=(Ext.refl w7).alloc _
     have b8:=Blk.new w7 104 #[.int .i64 xk,.string xp,.string xd,.bool xr,.string xe,.string xv,.string xs,.string xq,.bool xa,.bool xo]
     have HS8:=Hy (HSj.out.ext hxi)
     generalize hW8:w7.alloc (.cells #[.int .i64 xk,.string xp,.string xd,.bool xr,.string xe,.string xv,.string xs,.string xq,.bool xa,.bool xo] 104)=W8 at *
     have HW8:=Hy hW8
     clear hW8 hD hEE
     have e8:=b8.cell;have l8':=b8.lt
     go_wp2_with (refine wpList_load_at rfl _ _ rfl _ rfl _ LD ?_)
     rw[HW8.out]
     refine (CP.out _).mono ?_
     rintro e w2 ⟨rfl,hx2⟩
     have HS2:=Hy (HS8.out.ext hx2)
     have e2:=(b8.ext hx2).cell;have l2':=(b8.ext hx2).lt
     have hlook:(Instr.lookup 258 (.map (some (w.heap.size+1))) (.agg #[.int .i64 K,.string N]) true).run Tryz.prog w2=.ok (.tuple #[(lookF EN (K,N)).getD (.string ⟨#[]⟩),.bool D]) w2:=by
      have h:=(HS2.out.m.look (m:=258) Tryz.underlying258 (str_zero _) HOK.out).1
      rw[lookF_isSome,HD.out] at h
      exact h
     generalize (lookF EN (K,N)).getD (.string ⟨#[]⟩)=LV at *
     clear e8 l8' LD
     cases D with
     | true =>
       have HEE:=Hy (HBD.out (by rw[HV.out];rfl))
       go_wp2
       go_ret
       exact⟨ret_int HEE.out.symm,HS2.out.x⟩
     | false =>
       have HN1:=Hy (HNX.out (by rw[HV.out];rfl))
       have eC:=HS2.out.c.cell;have lC:=HS2.out.c.lt
       go_wp2
       refine wp_region_ext_tail 5 (by kernel_rfl) (by kernel_rfl) ?_
       simp only[List.take_succ_cons,List.take_zero,List.drop_succ_cons,List.drop_zero]
       repeat (first|go_big_quiet_skip|(refine wpQuiet_step (fun K hK=>?_);go_simp;first|(refine hK _ ?_;clear hK K)|(apply Exists.intro;refine⟨fun wq hwq=>?_,hK _ ?_⟩;(obtain⟨hqc,hqf⟩:=hwq.cells;have hqs:=hwq.size;(try go_simp);first|rfl|((first|rw[if_neg (by omega)]|rw[if_pos (by omega)]);(try go_simp);rfl)|((go_at_call 140;exact (CP.out _).mono (fun e w'' h=>⟨h.1,hwq.trans h.2⟩))));clear hK K)))
       refine wpQuiet_nil ?_
       intro wN hxN
       obtain⟨hcN,hfN⟩:=hxN.cells
       have hsN:=hxN.size
       have HSN2:=Hy (HS2.out.ext hxN)
       obtain⟨w4,hr4,hm4,hg4⟩:=HSN2.out.m.upd (m:=258) Tryz.underlying258 HOK.out (.string qn) (by omega)
       have hr4:(Instr.mapUpdate 258 (.map (some (w.heap.size+1))) (.agg #[.int .i64 K,.string N]) (.string qn)).run Tryz.prog wN=.ok () w4:=hr4
       rw[lookF_add qn (inP_no.1 HD.out),HADD.out] at hm4
       have HS4:=Hy (HSN2.out.upd hg4 hm4)
       clear hm4 hg4 e2 l2' hlook eC lC hcN hfN hsN
       go_wp2
       go_roundw
       case rel=>exact⟨j+1,by omega,by go_num,HN1,HS4⟩
       case measure=>simp[intOf];omega
    ·obtain rfl:j=l7:=by omega
     have HJ2:=Hy (show ∀ t,t < (itemsL (l.take (k+1))).length->twiceAt (itemsL l) t=0 from by rw[HLL.out];exact HJ.out)
     have HM2:=Hy (show HMap (keyPair pair_spot) w7 (w.heap.size+1) (itemsL (l.take (k+1))).length (lookF (entsL (l.take (k+1)))) from by rw[HLL.out,HESK.out];exact HSj.out.m)
     go_wp2
     go_roundw
     case rel=>exact⟨k+1,by omega,by go_num,HJ2,HM2,HSj.out.p,HSj.out.x⟩
     case measure=>simp[intOf];omega
  ·obtain rfl:n=k:=by omega
   have HTL:=Hy (show l.take n=l from List.take_of_length_le (by rw[HN.out];exact Nat.le_refl _))
   have HMA:=Hy (show HMap (keyPair pair_spot) wo (w.heap.size+1) (itemsL l).length (lookF (entsL l)) from by have h:=HM.out;rwa [HTL.out] at h)
   have HTW:=Hy (show ∀ t,t < (itemsL l).length->twiceAt (itemsL l) t=0 from by have h:=H0.out;rwa [HTL.out] at h)
   have HSVC:=Hy (HSV.out (HPN.out HTW.out))
   have HE2:=Hy (show E=f2 (firstN (itemsL l).length (fileAt (itemsL l))) (firstN l.length (svcAt l)) from by rw[HE.out,HZT.out HTW.out];rfl)
   have e2:=B2.out.cell;have l2':=B2.out.lt
   clear H0 HM HE HNT HZT HPN HT1 HTW HSV HM0 B0
   go_wp2
   clear e2 l2'
   go_loopw [61] (fun i wr=>∃ k:Nat,k<=n∧i=.int .i64 k∧Hid (∀ t,t < (itemsL (l.take k)).length->fileAt (itemsL l) t=0)∧Ext wo wr) (fun i _=>n - (intOf i).toNat)
   case atStart=>exact⟨0,Nat.zero_le _,rfl,Hy (fun t h=>absurd h (Nat.not_lt_zero _)),Ext.refl _⟩
   case round =>
    clear hk
    obtain⟨k,hk,rfl,H0,hxs⟩:=hrel
    obtain⟨ws,rfl⟩:∃ ws:World,ws=wr:=⟨_,rfl⟩
    have hxws:=hxr.trans hxs
    by_cases hlt:k < n
    ·have hk1:k < l.length:=by rw[HN.out];exact hlt
     obtain⟨b,o,rfl,hX⟩:=HR.out (fun e=>by rw[e] at hk1;exact absurd hk1 (Nat.not_lt_zero _))
     obtain⟨k0,n0,x0,A5,m5,c5,A6,c6,A7,c7,A8,c8,hrow⟩:=hX k hk1
     have LD:=load_Cm (hrow.ext hxws)
     have HII:=Hy hrow.has.items
     have hle:=HLE.out (k+1)
     have HLL:=Hy (show (itemsL (l.take (k+1))).length=(itemsL (l.take k)).length+l[k].items.length from by rw[HLT.out k hk1,List.length_append])
     rw[HLL.out] at hle
     have HIXK:=Hy (fun j=>HIX.out k j hk1)
     have HSMK:=Hy (HSM.out k hk1)
     clear hX hrow
     generalize l[k]=q at *
     obtain⟨qn,qt,qd,qa,qw,qe,qi,qs⟩:=q
     dsimp only[cmV] at *
     generalize qe.length=l6 at *
     generalize h7:qi.length=l7 at LD hle HLL ⊢
     have H7:=Hy h7
     clear h7
     generalize qs.length=l8 at *
     have b1:=Blk.new ws 82 #[.string qn,.string qt,.bool qd,.bool qa,.int .i64 k0,.string n0,.string x0,.slice A5 m5 c5,.slice A6 l6 c6,.slice A7 l7 c7,.slice A8 l8 c8]
     have hxa:Ext ws (ws.alloc (.cells #[.string qn,.string qt,.bool qd,.bool qa,.int .i64 k0,.string n0,.string x0,.slice A5 m5 c5,.slice A6 l6 c6,.slice A7 l7 c7,.slice A8 l8 c8] 82)):=(Ext.refl ws).alloc _
     generalize hW1:ws.alloc (.cells #[.string qn,.string qt,.bool qd,.bool qa,.int .i64 k0,.string n0,.string x0,.slice A5 m5 c5,.slice A6 l6 c6,.slice A7 l7 c7,.slice A8 l8 c8] 82)=W1 at *
     have HW1:=Hy hW1
     clear hW1
     have e1:=b1.cell;have l1':=b1.lt
     go_wp2_with (refine wpList_load_at rfl _ _ rfl _ rfl _ LD ?_)
     rw[HW1.out]
     clear LD e1 l1' b1
     go_loopw [68] (fun i wr=>∃ j:Nat,j<=l7∧i=.int .i64 j∧Hid (∀ t,t < (itemsL (l.take k)).length+j->fileAt (itemsL l) t=0)∧Ext wo wr) (fun i _=>l7 - (intOf i).toNat)
     case atStart=>exact⟨0,Nat.zero_le _,rfl,H0,hxs.trans hxa⟩
     case round =>
      obtain⟨j,hj,rfl,HJ,hx7⟩:=hrel
      obtain⟨w7,rfl⟩:∃ w7:World,w7=wr:=⟨_,rfl⟩
      have hx07:=hxr.trans hx7
      by_cases hlt3:j < l7
      ·have hj1:j < qi.length:=by rw[H7.out];exact hlt3
       obtain⟨b7,o7,rfl⟩:=RdI.at HII.out hj1
       have LD:=load_It (RdI.row (HII.out.ext hx07) hj1)
       obtain⟨hix,hiy,_⟩:=HIXK.out j hj1
       have hsy:=HSMK.out qi[j] (List.getElem_mem hj1)
       have CP:=Hy (fun W=>SpotOf_any qi[j] W)
       have hsn:=spotN_small hsy
       have HV:=Hy (show fileAt (itemsL l) ((itemsL (l.take k)).length+j)=if decide (spotK qi[j]=1)=false then 0 else if ((entsL l).map Prod.fst).any (nearK (spotN qi[j]))=true then 11 else if ownL (bs (spotN qi[j]))=true then 17 else 0 from by rw[HT2.out _ hix,hiy];rfl)
       have HBD:=Hy (show ¬ fileAt (itemsL l) ((itemsL (l.take k)).length+j)=0->E=fileAt (itemsL l) ((itemsL (l.take k)).length+j) from fun h=>by
        rw[HE2.out,HNF.out _ hix HJ.out h]
        exact f2_ne _ h)
       have HNX:=Hy (show fileAt (itemsL l) ((itemsL (l.take k)).length+j)=0->∀ t,t < (itemsL (l.take k)).length+(j+1)->fileAt (itemsL l) t=0 from fun h t ht=>by
        rcases Nat.lt_or_ge t ((itemsL (l.take k)).length+j) with h1|h1
        ·exact HJ.out t h1
        ·obtain rfl:t=(itemsL (l.take k)).length+j:=by omega
         exact h)
       clear hix hiy hsy HJ
       generalize fileAt (itemsL l) ((itemsL (l.take k)).length+j)=Z at *
       generalize qi[j]=y at *
       generalize spotK y=K at *
       generalize spotN y=N at *
       have CO:=Hy (own_top (bs N))
       have CCUT:=Hy (fun W (h:Ext w W)=>cut_ex 47 N W (HG.out.ext h) hsn)
       generalize ownL (bs N)=OW at *
       obtain⟨xk,xp,xd,xr,xe,xv,xs,xq,xa,xo⟩:=y
       dsimp only[itmV] at *
       have hxi:Ext w7 (w7.alloc (.cells #[.int .i64 xk,.string xp,.string xd,.bool xr,.string xe,.string xv,.string xs,.string xq,.bool xa,.bool xo] 104)):=(Ext.refl w7).alloc _
       have b8:=Blk.new w7 104 #[.int .i64 xk,.string xp,.string xd,.bool xr,.string xe,.string xv,.string xs,.string xq,.bool xa,.bool xo]
       generalize hW8:w7.alloc (.cells #[.int .i64 xk,.string xp,.string xd,.bool xr,.string xe,.string xv,.string xs,.string xq,.bool xa,.bool xo] 104)=W8 at *
       have HW8:=Hy hW8
       clear hW8
       have e8:=b8.cell;have l8':=b8.lt
       go_wp2_with (refine wpList_load_at rfl _ _ rfl _ rfl _ LD ?_)
       rw[HW8.out]
       refine (CP.out _).mono ?_
       rintro e w2 ⟨rfl,hx2⟩
       have hx72:=hx7.trans (hxi.trans hx2)
       have b9:=Blk.new w2 214 #[.int .i64 K,.string N]
       have hxj:Ext w2 (w2.alloc (.cells #[.int .i64 K,.string N] 214)):=(Ext.refl w2).alloc _
       clear e8 l8' LD
       by_cases hK:K=1
       ·subst hK
        have HM3:=Hy (HMA.out.ext (hx72.trans hxj))
        have hm3:=HM3.out
        have hxo:=hxr.size
        have hx7s:=hx72.size
        go_wp2_with (first
         | (at_range;refine wp_range_h _ rfl _ 258 9 rfl Tryz.underlying258 (w.heap.size+1) (itemsL l).length (lookF (entsL l)) rfl hm3 ?_;intro w4 cnt0 hrg0 hg0 hs0;simp only[World.size_alloc] at hrg0 ⊢)
         | go_in)
        go_frame
        have hx4:Ext (w2.alloc (.cells #[.int .i64 1,.string N] 214)) w4:=grown_ext0 hg0
        have hx74:=hx72.trans (hxj.trans hx4)
        have b94:=b9.ext hx4
        clear hg0 hm3
        go_loopw [17] (fun _ wr=>∃ (left:Int × ByteArray->Bool) (cnt:Nat),RangeH (keyPair pair_spot) wr (w.heap.size+1) (w2.heap.size+1) (itemsL l).length (lookF (entsL l)) left cnt∧Hid (∀ t,(lookF (entsL l) t).isSome=true->left t=false->nearK N t=false)∧Blk wr w2.heap.size 214 #[.int .i64 1,.string N]∧Ext wo wr) (fun _ wr=>wr.rangeLeft (w.heap.size+1) (w2.heap.size+1))
        case atStart=>exact⟨_,cnt0,hrg0,Hy (fun t h1 h2=>by rw[h1] at h2;cases h2),b94,hx74⟩
        case round =>
         clear hrg0 b94 hx74 b9
         obtain⟨left,cnt,hrg,HP,b10,hx5⟩:=hrel
         have e10:=b10.cell;have l10:=b10.lt
         go_wp2_with (first
          | (at_next;refine wp_next_h _ rfl _ rfl (w.heap.size+1) (w2.heap.size+1) (itemsL l).length (lookF (entsL l)) left cnt rfl hrg ?_ ?_)
          | go_in)
         ·intro hl0
          have HNN:=Hy (near_none (p:=N) (fun t h=>HP.out t h (hl0 t.1 t.2 (HKS.out t h).1)))
          clear hrg hl0
          go_wp2_with fail
          refine (CCUT.out _ (hxr.trans hx5)).mono ?_
          rintro e w6 ⟨ca,cb,fl,rfl,hc,_,_,hx6⟩
          have HA:=Hy (show OW=(bs ca==wStage||bs ca==wOutfit) from by rw[CO.out,hc])
          clear hc e10 l10
          have a1:(ca.toList==[115,116,97,103,101])=(bs ca==wStage):=by rw[ByteArray.toList_eq]
          have a2:(ca.toList==[111,117,116,102,105,116])=(bs ca==wOutfit):=by rw[ByteArray.toList_eq]
          generalize (bs ca==wStage)=O1 at *
          generalize (bs ca==wOutfit)=O2 at *
          cases O1 with
          | true =>
            have HEE:=Hy (show E=17 from by
             have hz:Z=17:=by rw[HV.out,HNN.out,HA.out];rfl
             rw[HBD.out (by rw[hz];decide),hz])
            go_wp2
            go_ret
            exact⟨ret_int HEE.out.symm,hxr.trans (hx5.trans hx6)⟩
          | false =>
            cases O2 with
            | true =>
              have HEE:=Hy (show E=17 from by
               have hz:Z=17:=by rw[HV.out,HNN.out,HA.out];rfl
               rw[HBD.out (by rw[hz];decide),hz])
              go_wp2
              go_ret
              exact⟨ret_int HEE.out.symm,hxr.trans (hx5.trans hx6)⟩
            | false =>
              have HN1:=Hy (HNX.out (by rw[HV.out,HNN.out,HA.out];rfl))
              go_wp2
              go_roundw
              case rel=>exact⟨j+1,by omega,by go_num,HN1,hx5.trans hx6⟩
              case measure=>simp[intOf];omega
         ·intro tk tn cv w5 cnt1 hox hlx hfx hrg1 hcl hg1 hs1 hen
          simp only[keyPair_val] at hen ⊢
          clear hs1
          have hsome:(lookF (entsL l) (tk,tn)).isSome=true:=by rw[hfx];rfl
          have htn:=(HKS.out _ hsome).2
          dsimp only at htn
          have hx15:Ext wo w5:=hx5.row hg1 (by omega)
          have b11:=b10.turned hg1 (by simp)
          have HLE2:=Hy hrg.left_eq
          have HNS2:=Hy (fun h=>near_some (p:=N) hsome h)
          have HRG:=Hy hrg1
          have HNO:=Hy (show nearK N (tk,tn)=false->∀ t,(lookF (entsL l) t).isSome=true->(left t&&neK t (tk,tn))=false->nearK N t=false from fun h t h1 h2=>by
           by_cases e:t=(tk,tn)
           ·rw[e];exact h
           ·refine HP.out t h1 ?_
            rw[neK_iff.2 e,Bool.and_true] at h2
            exact h2)
          have hxk:Ext w5 (w5.alloc (.cells #[.int .i64 tk,.string tn] 214)):=(Ext.refl w5).alloc _
          have b12:=Blk.new w5 214 #[.int .i64 tk,.string tn]
          have e11:=b11.cell;have l11:=b11.lt;have e12:=b12.cell;have l12:=b12.lt
          have CP1:=Hy (show ∀ W,Calls Tryz.prog 191 #[.string N,.string (tn++⟨#[47]⟩)] W fun e w'=>e=.returned (.bool (belowL (bs N) (bs tn)))∧W=w' from fun W=>(hasPrefix_any _ _ _).mono (fun e w' h=>by rw[bs_append] at h;exact h))
          have CP2:=Hy (show ∀ W,Calls Tryz.prog 191 #[.string tn,.string (N++⟨#[47]⟩)] W fun e w'=>e=.returned (.bool (belowL (bs tn) (bs N)))∧W=w' from fun W=>(hasPrefix_any _ _ _).mono (fun e w' h=>by rw[bs_append] at h;exact h))
          have HNK:=Hy (show nearK N (tk,tn)=(decide (tk=1)&&(belowL (bs N) (bs tn)||belowL (bs tn) (bs N))) from rfl)
          generalize belowL (bs N) (bs tn)=D1 at *
          generalize belowL (bs tn) (bs N)=D2 at *
          clear hrg hrg1 hfx hlx hox hg1 b10 e10 l10
          by_cases htk:tk=1
          ·subst htk
           go_wp2_with fail
           refine (CP1.out _).mono ?_
           rintro e w' ⟨rfl,rfl⟩
           cases D1 with
           | true =>
             have HEE:=Hy (show E=11 from by
              have hz:Z=11:=by rw[HV.out,HNS2.out (by rw[HNK.out];rfl)];rfl
              rw[HBD.out (by rw[hz];decide),hz])
             go_wp2
             go_ret
             exact⟨ret_int HEE.out.symm,hxr.trans (hx15.trans hxk)⟩
           | false =>
             go_wp2_with fail
             refine (CP2.out _).mono ?_
             rintro e w' ⟨rfl,rfl⟩
             cases D2 with
             | true =>
               have HEE:=Hy (show E=11 from by
                have hz:Z=11:=by rw[HV.out,HNS2.out (by rw[HNK.out];rfl)];rfl
                rw[HBD.out (by rw[hz];decide),hz])
               go_wp2
               go_ret
               exact⟨ret_int HEE.out.symm,hxr.trans (hx15.trans hxk)⟩
             | false =>
               have HN1:=Hy (HNO.out (by rw[HNK.out];rfl))
               have HRG2:=Hy (HRG.out.grown (hxk.by none) (by simp) (by simp))
               go_wp2
               go_roundw
               case rel=>exact⟨_,cnt1,HRG2.out,HN1,b11.ext hxk,hx15.trans hxk⟩
               case measure=>rw[HRG2.out.left_eq,HLE2.out];exact hcl
          ·have HN1:=Hy (HNO.out (by rw[HNK.out,decide_eq_false htk];rfl))
           have hne:(tk==1)=false:=by rw[beq_eq_false_iff_ne];exact htk
           have HRG2:=Hy (HRG.out.grown (hxk.by none) (by simp) (by simp))
           clear htk
           go_wp2
           go_roundw
           case rel=>exact⟨_,cnt1,HRG2.out,HN1,b11.ext hxk,hx15.trans hxk⟩
           case measure=>rw[HRG2.out.left_eq,HLE2.out];exact hcl
       ·have HN1:=Hy (HNX.out (by rw[HV.out,decide_eq_false hK];rfl))
        have hne:(K != 1)=true:=by rw[bne_iff_ne];exact hK
        clear hK
        go_wp2
        go_roundw
        case rel=>exact⟨j+1,by omega,by go_num,HN1,hx72.trans hxj⟩
        case measure=>simp[intOf];omega
      ·obtain rfl:j=l7:=by omega
       have HJ2:=Hy (show ∀ t,t < (itemsL (l.take (k+1))).length->fileAt (itemsL l) t=0 from by rw[HLL.out];exact HJ.out)
       go_wp2
       go_roundw
       case rel=>exact⟨k+1,by omega,by go_num,HJ2,hx7⟩
       case measure=>simp[intOf];omega
    ·obtain rfl:n=k:=by omega
     have HFW:=Hy (show ∀ t,t < (itemsL l).length->fileAt (itemsL l) t=0 from by have h:=H0.out;rwa [HTL.out] at h)
     have HE3:=Hy (show E=firstN l.length (svcAt l) from by rw[HE2.out,HZF.out HFW.out];rfl)
     have B3:=Hy (B2.out.ext hxs)
     have e2:=B3.out.cell;have l2':=B3.out.lt
     clear H0 HE2 HNF HZF HT2 HFW HIX HLT HLE HES HEF HKS HSI
     go_wp2
     clear e2 l2'
     go_loopw [120] (fun i wr=>∃ k:Nat,k<=n∧i=.int .i64 k∧Hid (∀ t,t < k->svcAt l t=0)∧Ext wo wr) (fun i _=>n - (intOf i).toNat)
     case atStart=>exact⟨0,Nat.zero_le _,rfl,Hy (fun t h=>absurd h (Nat.not_lt_zero _)),hxs⟩
     case round =>
      clear hk hxs hxws
      obtain⟨k,hk,rfl,H0,hxs⟩:=hrel
      obtain⟨ws,rfl⟩:∃ ws:World,ws=wr:=⟨_,rfl⟩
      have hxws:=hxr.trans hxs
      by_cases hlt:k < n
      ·have hk1:k < l.length:=by rw[HN.out];exact hlt
       obtain⟨b,o,rfl,hX⟩:=HR.out (fun e=>by rw[e] at hk1;exact absurd hk1 (Nat.not_lt_zero _))
       obtain⟨k0,n0,x0,A5,m5,c5,A6,c6,A7,c7,A8,c8,hrow⟩:=hX k hk1
       have LD:=load_Cm (hrow.ext hxws)
       have HII:=Hy hrow.has.items
       have HSMK:=Hy (HSM.out k hk1)
       have hsn:=HSN.out k hk1
       have HSVK:=Hy (HSVC.out k hk1)
       have CLK:=Hy (fun W (h:Ext w W)=>CL.out W h l[k].name hsn)
       have HBE:=Hy (show svcAt l k=10->E=10 from fun h=>by rw[HE3.out,HNS.out k hk1 H0.out (by rw[h];decide),h])
       have HNX:=Hy (show svcAt l k=0->∀ t,t < k+1->svcAt l t=0 from firstN_next H0.out)
       have HLD:=Hy (fun o=>leadsB_iff (l:=l) (a:=l[k].name) (b:=o))
       have HII7:=Hy (show l[k].items.length<=(itemsL l).length from by
        have h:=itemsL_le l (k+1)
        rw[itemsL_take l k hk1,List.length_append] at h
        omega)
       clear hX hrow
       generalize svcAt l k=Z at *
       generalize l[k]=q at *
       obtain⟨qn,qt,qd,qa,qw,qe,qi,qs⟩:=q
       dsimp only[cmV] at *
       have hl7:=HII7.out
       generalize qe.length=l6 at *
       generalize h7:qi.length=l7 at LD hl7 ⊢
       have H7:=Hy h7
       clear h7
       generalize qs.length=l8 at *
       have b1:=Blk.new ws 82 #[.string qn,.string qt,.bool qd,.bool qa,.int .i64 k0,.string n0,.string x0,.slice A5 m5 c5,.slice A6 l6 c6,.slice A7 l7 c7,.slice A8 l8 c8]
       have hxa:Ext ws (ws.alloc (.cells #[.string qn,.string qt,.bool qd,.bool qa,.int .i64 k0,.string n0,.string x0,.slice A5 m5 c5,.slice A6 l6 c6,.slice A7 l7 c7,.slice A8 l8 c8] 82)):=(Ext.refl ws).alloc _
       generalize hW1:ws.alloc (.cells #[.string qn,.string qt,.bool qd,.bool qa,.int .i64 k0,.string n0,.string x0,.slice A5 m5 c5,.slice A6 l6 c6,.slice A7 l7 c7,.slice A8 l8 c8] 82)=W1 at *
       have HW1:=Hy hW1
       clear hW1
       have e1:=b1.cell;have l1':=b1.lt
       go_wp2_with (refine wpList_load_at rfl _ _ rfl _ rfl _ LD ?_)
       rw[HW1.out]
       refine (CLK.out _ (hxws.trans hxa)).mono ?_
       rintro e w2 ⟨s,N,L,rfl,_,hks,_,hld,hx2⟩
       have HKS:=Hy hks
       have HLL:=Hy hld
       have hx02:=hxs.trans (hxa.trans hx2)
       have b2:=b1.ext hx2
       have e2:=b2.cell;have l2':=b2.lt
       clear e1 l1' LD hks hld b1
       go_wp2
       clear e2 l2'
       go_loopw [131] (fun i wr=>∃ j:Nat,j<=l7∧i=.int .i64 j∧Hid (∀ t (ht:t < qi.length),t < j->(!decide (qi[t].kind=6)||ownK l qn (lookF (entsL l) (1,qi[t].sp)))=true)∧Ext w2 wr) (fun i _=>l7 - (intOf i).toNat)
       case atStart=>exact⟨0,Nat.zero_le _,rfl,Hy (fun t _ h=>absurd h (Nat.not_lt_zero _)),Ext.refl _⟩
       case round =>
        obtain⟨j,hj,rfl,HJ,hx7⟩:=hrel
        obtain⟨w7,rfl⟩:∃ w7:World,w7=wr:=⟨_,rfl⟩
        have hx07:=hx02.trans hx7
        by_cases hlt3:j < l7
        ·have hj1:j < qi.length:=by rw[H7.out];exact hlt3
         obtain⟨b7,o7,rfl⟩:=RdI.at HII.out hj1
         have LD:=load_It (RdI.row (HII.out.ext (hxr.trans hx07)) hj1)
         have hsp:=(HSMK.out qi[j] (List.getElem_mem hj1)).sp
         have HBJ:=Hy (show qi[j].kind=6->ownK l qn (lookF (entsL l) (1,qi[j].sp))=false->E=10 from fun h6 h=>HBE.out (HSVK.out.1 j hj1 h6 h))
         have HNJ:=Hy (show (!decide (qi[j].kind=6)||ownK l qn (lookF (entsL l) (1,qi[j].sp)))=true->∀ t (ht:t < qi.length),t < j+1->(!decide (qi[t].kind=6)||ownK l qn (lookF (entsL l) (1,qi[t].sp)))=true from fun h t ht htj=>by
          rcases Nat.lt_or_ge t j with h1|h1
          ·exact HJ.out t ht h1
          ·obtain rfl:t=j:=by omega
           exact h)
         have HLS:=Hy (fun v=>lookF_str (E:=entsL l) (t:=(1,qi[j].sp)) (v:=v))
         have HOJ:=Hy (fun o=>HOS.out (1,qi[j].sp) o)
         clear HJ
         generalize qi[j]=y at *
         obtain⟨xk,xp,xd,xr,xe,xv,xs,xq,xa,xo⟩:=y
         dsimp only[itmV] at *
         have hxi:Ext w7 (w7.alloc (.cells #[.int .i64 xk,.string xp,.string xd,.bool xr,.string xe,.string xv,.string xs,.string xq,.bool xa,.bool xo] 104)):=(Ext.refl w7).alloc _
         have b8:=Blk.new w7 104 #[.int .i64 xk,.string xp,.string xd,.bool xr,.string xe,.string xv,.string xs,.string xq,.bool xa,.bool xo]
         have e8:=b8.cell;have l8':=b8.lt
         have hm7:=HMA.out.ext (hx07.trans hxi)
         have hlook:(Instr.lookup 258 (.map (some (w.heap.size+1))) (.agg #[.int .i64 1,.string xq]) true).run Tryz.prog (w7.alloc (.cells #[.int .i64 xk,.string xp,.string xd,.bool xr,.string xe,.string xv,.string xs,.string xq,.bool xa,.bool xo] 104))=.ok (.tuple #[(lookF (entsL l) (1,xq)).getD (.string ⟨#[]⟩),.bool (lookF (entsL l) (1,xq)).isSome]) (w7.alloc (.cells #[.int .i64 xk,.string xp,.string xd,.bool xr,.string xe,.string xv,.string xs,.string xq,.bool xa,.bool xo] 104)) :=
          (hm7.look (m:=258) Tryz.underlying258 (str_zero _) (okP_file hsp)).1
         have bc7:=b2.ext (hx7.trans hxi)
         have ec:=bc7.cell;have lc:=bc7.lt
         have bc6:=b2.ext hx7
         have ec6:=bc6.cell;have lc6:=bc6.lt
         clear hm7
         by_cases h6:xk=6
         ·subst h6
          generalize hLV:lookF (entsL l) (1,xq)=LV at *
          cases LV with
          | none =>
            have HEE:=Hy (HBJ.out rfl rfl)
            go_wp2_with (refine wpList_load_at rfl _ _ rfl _ rfl _ LD ?_)
            go_ret
            exact⟨ret_int HEE.out.symm,hxr.trans (hx07.trans hxi)⟩
          | some v =>
            obtain⟨ow,rfl,_⟩:=HLS.out v rfl
            have how:=HOJ.out ow rfl
            have hks:=(HKS.out.ext (hx7.trans hxi)).look (t:=191) Tryz.underlying191 ow (by omega)
            have HMB:=Hy (show decide (bs ow∈L.map bs)=leadsB l qn ow from by
             rw[Bool.eq_iff_iff,decide_eq_true_eq,mem_bs,HLL.out,HLD.out])
            rw[HMB.out] at hks
            have hq2:=dec_toL ow qn
            have HOK:=Hy (show ownK l qn (some (.string ow))=(decide (ow=qn)||leadsB l qn ow) from rfl)
            generalize decide (ow=qn)=D1 at *
            generalize leadsB l qn ow=D2 at *
            generalize ownK l qn (some (.string ow))=G at *
            cases D1 with
            | true =>
              have HO2:=Hy (HNJ.out (by rw[HOK.out];rfl))
              go_wp2_with (refine wpList_load_at rfl _ _ rfl _ rfl _ LD ?_)
              go_roundw
              case rel=>exact⟨j+1,by omega,by go_num,HO2,hx7.trans hxi⟩
              case measure=>simp[intOf];omega
            | false =>
              cases D2 with
              | true =>
                have HO2:=Hy (HNJ.out (by rw[HOK.out];rfl))
                go_wp2_with (refine wpList_load_at rfl _ _ rfl _ rfl _ LD ?_)
                go_roundw
                case rel=>exact⟨j+1,by omega,by go_num,HO2,hx7.trans hxi⟩
                case measure=>simp[intOf];omega
              | false =>
                have HEE:=Hy (HBJ.out rfl (by rw[HOK.out];rfl))
                go_wp2_with (refine wpList_load_at rfl _ _ rfl _ rfl _ LD ?_)
                go_ret
                exact⟨ret_int HEE.out.symm,hxr.trans (hx07.trans hxi)⟩
         ·have HO2:=Hy (HNJ.out (by rw[decide_eq_false h6];rfl))
          have hne:(xk != 6)=true:=by rw[bne_iff_ne];exact h6
          clear h6
          go_wp2_with (refine wpList_load_at rfl _ _ rfl _ rfl _ LD ?_)
          go_roundw
          case rel=>exact⟨j+1,by omega,by go_num,HO2,hx7.trans hxi⟩
          case measure=>simp[intOf];omega
        ·obtain rfl:j=l7:=by omega
         have HO:=Hy (HNX.out (HSVK.out.2 (fun t ht=>HJ.out t ht (by rw[<-H7.out];exact ht))))
         go_wp2
         go_roundw
         case rel=>exact⟨k+1,by omega,by go_num,HO,hx07⟩
         case measure=>simp[intOf];omega
      ·obtain rfl:n=k:=by omega
       have HEE:=Hy (show E=0 from by rw[HE3.out];exact HZS.out (fun t ht=>H0.out t (by rw[<-HN.out];exact ht)))
       go_wp2
       go_ret
       exact⟨ret_int HEE.out.symm,hxws⟩
end Go.Proofs.YtmpccllnpcbgcaaGreatDoor
