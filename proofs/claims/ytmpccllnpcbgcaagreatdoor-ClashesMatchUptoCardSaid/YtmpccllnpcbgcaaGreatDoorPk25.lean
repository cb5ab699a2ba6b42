/- Contracts of pack.needsFault and outref2.listError. Contract of pack.componentFault. Contract of pack.at. Contract of pack.headFault. Contract of pack.items. slices.IndexFunc and slices.ContainsFunc over texts; the closures of pack.movesFault and pack.webFault. Contract of pack.movesFault. Contract of pack.movesFault. The closure of pack.webFault. slices.Clone over texts. A row of the call's own is what is left of a queue. The queue of pack.reach, rows of truths. slices.DeleteFunc over texts of the call's own. -/
import Derived.Test.YtmpccllnpcbgcaaGreatDoorPk22
import Derived.Laws.MakeOwn
import Derived.Lib.SliceRun
import Derived.Laws.IdiomCopy
namespace Go.Proofs.YtmpccllnpcbgcaaGreatDoor
section
open Go.RowKit
theorem dec_toL (a b:ByteArray):(a.toList==b.toList)=decide (a=b):=by
 rw[Bool.eq_iff_iff,beq_iff_eq,decide_eq_true_eq,str_eq]
theorem needC_any (m:Ned) (A:Option Addr) (c g:Nat) (nm:ByteArray) (w:World) (hc:w.cell? ⟨g,0,none⟩=some (.string nm)) :
 Calls Tryz.prog 266 (#[nedV m A c]++#[.pointer (some ⟨g,0,none⟩)]) w fun e w'=>e=.returned (.bool (decide (m.name=nm)))∧Ext w w':=by
 have hq:=dec_toL m.name nm
 generalize decide (m.name=nm)=D at *
 obtain⟨mn,mf⟩:=m
 dsimp only[nedV] at *
 generalize mf.length=fl at *
 have hg:=lt_of_cell hc
 go_enter Tryz.func266,Tryz.ntmps266
 go_wp2
 go_ret
 exact⟨rfl,(Ext.refl w).alloc _⟩
theorem any_take (l:List Ned) (k:Nat) (hk:k < l.length) (nm:ByteArray):anyN k (fun j=>decide ((l.getD j zeroN).name=nm))=(l.take k).any (fun m=>decide (m.name=nm)):=by
 unfold anyN
 rw[Bool.eq_iff_iff,List.any_eq_true,List.any_eq_true]
 constructor
 ·rintro ⟨j,hj,h⟩
  have hj:=List.mem_range.1 hj
  refine⟨l[j],List.mem_take_iff_getElem.2 ⟨j,by omega,rfl⟩,?_⟩
  simpa [List.getD,List.getElem?_eq_getElem (show j < l.length by omega)] using h
 ·rintro ⟨m,hm,h⟩
  obtain⟨j,hj,rfl⟩:=List.mem_take_iff_getElem.1 hm
  refine⟨j,List.mem_range.2 (by omega),?_⟩
  simpa [List.getD,List.getElem?_eq_getElem (show j < l.length by omega)] using h
set_option maxHeartbeats 8000000 in
set_option maxRecDepth 100000 in
theorem needsFault_any (own:ByteArray) (l:List Ned) (A:Option Addr) (n c:Nat) (w:World) (hg:Good w) (hn:l.length=n) (hcap:n<=c) (hr:RdN w A l) (hs:∀ m∈l,SmallN m) (hl:n<=2097152) :
 Calls Tryz.prog 204 #[.string own,.slice A n c] w fun e w'=>e=.returned (.int .i64 (nedErr own l))∧Ext w w':=by
 have HAT:=Hy (show ∀ k,k < n->(∀ j,j < k->nedAt own l j=0)->¬ nedAt own l k=0->nedErr own l=nedAt own l k from fun k hk h0 h=>by unfold nedErr;rw[hn];exact firstN_at hk h0 h)
 have HALL:=Hy (show (∀ j,j < n->nedAt own l j=0)->nedErr own l=0 from fun h0=>by unfold nedErr;rw[hn];exact firstN_zero h0)
 have HN:=Hy hn
 have HR:=Hy hr
 have HS:=Hy hs
 have HG:=Hy hg
 generalize nedErr own l=E at *
 clear hn hr hs hg
 go_enter Tryz.func204,Tryz.ntmps204
 go_wp2
 go_loopw [10] (fun i wr=>∃ k:Nat,k<=n∧i=.int .i64 k∧Hid (∀ j,j < k->nedAt own l j=0)∧Ext w wr) (fun i _=>n - (intOf i).toNat)
 case atStart=>exact⟨0,Nat.zero_le _,rfl,fun j h=>absurd h (Nat.not_lt_zero _),Ext.refl _⟩
 case round =>
  obtain⟨k,hk,rfl,H0,hxr⟩:=hrel
  obtain⟨wo,rfl⟩:∃ wo:World,wo=wr:=⟨_,rfl⟩
  by_cases hlt:k < n
  ·have hk1:k < l.length:=by rw[HN.out];exact hlt
   obtain⟨b,o,rfl,hX⟩:=(HR.out.ext hxr) (fun e=>by rw[e] at hk1;exact absurd hk1 (Nat.not_lt_zero _))
   obtain⟨A1,c1,hrow⟩:=hX k hk1
   have LD:=load_Ned hrow
   have hfr:=hrow.has
   have hsm:=HS.out _ (List.getElem_mem hk1)
   have HBAD:=Hy (HAT.out k hlt H0.out)
   have HNX:=Hy (show nedAt own l k=0->∀ j,j < k+1->nedAt own l j=0 from firstN_next H0.out)
   have HTK:=Hy (any_take l k hk1 l[k].name)
   have HV:=Hy (show nedAt own l k=firstI [(if nameL (bs l[k].name)=true then 0 else 5),(if l[k].name=own then 13 else 0),(if (l.take k).any (fun m=>decide (m.name=l[k].name))=true then 6 else 0),rngErr l[k].fr] from by
    unfold nedAt
    simp[List.getD,List.getElem?_eq_getElem hk1])
   have CN:=Hy (fun W=>IsName_any l[k].name W hsm.name)
   have CR:=Hy (fun W (h:Ext wo W)=>CheckRange_any A1 l[k].fr.length c1 l[k].fr W (HG.out.ext (hxr.trans h)) rfl (hfr.ext h) hsm.fr hsm.len)
   obtain⟨V,hV⟩:∃ V:Nat->Value,∀ j (hj:j < l.length),∃ A2 c2,V j=nedV l[j] A2 c2∧NedRow wo b (o+j * 2) l[j] A2 c2 :=
    ⟨fun j=>if h:j < l.length then nedV l[j] (Classical.choose (hX j h)) (Classical.choose (Classical.choose_spec (hX j h))) else .bool false,fun j hj=>⟨_,_,dif_pos hj,Classical.choose_spec (Classical.choose_spec (hX j hj))⟩⟩
   have CC:=Hy (show ∀ W,Ext wo W->W.cell? ⟨wo.heap.size,0,none⟩=some (.string l[k].name)->Calls Tryz.prog 193 #[.slice (some ⟨b,o,none⟩) k c,.func (.func 266) #[] #[.pointer (some ⟨wo.heap.size,0,none⟩)]] W fun e w'=>e=.returned (.bool ((l.take k).any (fun m=>decide (m.name=l[k].name))))∧Ext W w' from fun W hW hc=>by
    rw[<-any_take l k hk1]
    refine ContainsFuncNed_any _ k c b o V _ _ _ W (fun _=>rfl) (by omega) (fun _ _=>rfl) (fun q hq W' hW'=>?_) (fun q hq W' hW'=>?_)
    ·obtain⟨A2,c2,e,hr2⟩:=hV q (by omega)
     rw[e]
     exact load_Ned ((hr2.ext hW).ext hW')
    ·obtain⟨A2,c2,e,hr2⟩:=hV q (by omega)
     rw[e]
     have:=needC_any l[q] A2 c2 wo.heap.size l[k].name W' (hW'.cell hc)
     simpa [List.getD,List.getElem?_eq_getElem (show q < l.length by omega)] using this)
   clear hX hrow hV hfr hsm HTK
   have hq2:=dec_toL l[k].name own
   generalize hV0:nedAt own l k=Z at *
   clear hV0
   generalize (l.take k).any (fun m=>decide (m.name=l[k].name))=AN at *
   generalize l[k]=m at *
   obtain⟨mn,mf⟩:=m
   dsimp only[nedV] at *
   generalize mf.length=fl at *
   generalize nameL (bs mn)=Q1 at *
   generalize rngErr mf=R at *
   obtain⟨D2,hD2⟩:∃ D2,decide (mn=own)=D2:=⟨_,rfl⟩
   rw[hD2] at hq2
   have HV2:=Hy (show Z=firstI [(if Q1=true then 0 else 5),(if D2=true then 13 else 0),(if AN=true then 6 else 0),R] from by rw[HV.out,<-hD2];simp only[decide_eq_true_eq])
   clear hD2 HV
   have b1:=Blk.new wo 253 #[.string mn,.slice A1 fl c1]
   have hxa:Ext wo (wo.alloc (.cells #[.string mn,.slice A1 fl c1] 253)):=(Ext.refl wo).alloc _
   generalize hW1:wo.alloc (.cells #[.string mn,.slice A1 fl c1] 253)=W1 at *
   have HW1:=Hy hW1
   clear hW1
   have e1:=b1.cell;have l1:=b1.lt
   have CC1:=Hy (CC.out W1 hxa (e1 0))
   clear CC
   have hkc:k<=c:=by omega
   go_wp2_with (refine wpList_load_at rfl _ _ rfl _ rfl _ LD ?_)
   rw[HW1.out]
   refine (CN.out _).mono ?_
   rintro e w' ⟨rfl,rfl⟩
   clear LD
   cases Q1
   ·have HE:=Hy (show E=5 from by rw[HBAD.out (by rw[HV2.out];simp[firstI]),HV2.out];rfl)
    go_wp2
    go_ret
    exact⟨ret_int HE.out.symm,hxr.trans hxa⟩
   cases D2
   rotate_left
   ·have HE:=Hy (show E=13 from by rw[HBAD.out (by rw[HV2.out];simp[firstI]),HV2.out];rfl)
    go_wp2
    go_ret
    exact⟨ret_int HE.out.symm,hxr.trans hxa⟩
   go_wp2_with fail
   refine CC1.out.mono ?_
   rintro e w2 ⟨rfl,hx2⟩
   have hx02:=hxa.trans hx2
   have b2:=b1.ext hx2
   have e2:=b2.cell;have l2:=b2.lt
   cases AN
   rotate_left
   ·have HE:=Hy (show E=6 from by rw[HBAD.out (by rw[HV2.out];simp[firstI]),HV2.out];rfl)
    go_wp2
    go_ret
    exact⟨ret_int HE.out.symm,hxr.trans hx02⟩
   go_wp2_with fail
   refine (CR.out _ hx02).mono ?_
   rintro e w3 ⟨rfl,hx3⟩
   have hx03:=hx02.trans hx3
   by_cases hR:R=0
   ·have HO:=Hy (HNX.out (by rw[HV2.out,hR];rfl))
    subst hR
    go_wp2
    go_roundw
    case rel=>exact⟨k+1,by omega,by go_num,HO.out,hxr.trans hx03⟩
    case measure=>simp[intOf];omega
   ·have HZ:=Hy (show Z=R from by rw[HV2.out];simp[firstI,hR])
    have HE:=Hy (show E=R from by rw[HBAD.out (by rw[HZ.out];exact hR),HZ.out])
    have hne:(R != 0)=true:=by rw[bne_iff_ne];exact hR
    clear hR
    go_wp2
    go_ret
    exact⟨ret_int HE.out.symm,hxr.trans hx03⟩
  ·obtain rfl:k=n:=by omega
   have H1:=Hy (HALL.out H0.out)
   go_wp2
   go_ret
   exact⟨ret_int H1.out.symm,hxr⟩
theorem listC_any (m:Ned) (A:Option Addr) (c g:Nat) (nm:ByteArray) (w:World) (hc:w.cell? ⟨g,0,none⟩=some (.string nm)) :
 Calls Tryz.prog 194 (#[nedV m A c]++#[.pointer (some ⟨g,0,none⟩)]) w fun e w'=>e=.returned (.bool (decide (m.name=nm)))∧Ext w w':=by
 have hq:=dec_toL m.name nm
 generalize decide (m.name=nm)=D at *
 obtain⟨mn,mf⟩:=m
 dsimp only[nedV] at *
 generalize mf.length=fl at *
 have hg:=lt_of_cell hc
 go_enter Tryz.func194,Tryz.ntmps194
 go_wp2
 go_ret
 exact⟨rfl,(Ext.refl w).alloc _⟩
set_option maxHeartbeats 8000000 in
set_option maxRecDepth 100000 in
theorem listError_any (own:ByteArray) (pv:Array Value) (l:List Ned) (A:Option Addr) (n c:Nat) (w:World) (hg:GoodN w) (hp0:pv[0]?=some (.string own)) (_hp:pv.size=10) (hn:l.length=n) (hcap:n<=c) (hr:RdN w A l) (hs:∀ m∈l,SmallN m) (hl:n<=2097152) :
 Calls Tryz.prog 112 #[.agg pv,.slice A n c] w fun e w'=>e=.returned (.int .i64 (nedErr own l))∧Ext w w':=by
 have HAT:=Hy (show ∀ k,k < n->(∀ j,j < k->nedAt own l j=0)->¬ nedAt own l k=0->nedErr own l=nedAt own l k from fun k hk h0 h=>by unfold nedErr;rw[hn];exact firstN_at hk h0 h)
 have HALL:=Hy (show (∀ j,j < n->nedAt own l j=0)->nedErr own l=0 from fun h0=>by unfold nedErr;rw[hn];exact firstN_zero h0)
 have HN:=Hy hn
 have HR:=Hy hr
 have HS:=Hy hs
 have HG:=Hy hg
 generalize nedErr own l=E at *
 clear hn hr hs hg
 have bP:=Blk.new w 76 pv
 have hxP:Ext w (w.alloc (.cells pv 76)):=(Ext.refl w).alloc _
 go_enter Tryz.func112,Tryz.ntmps112
 go_wp2
 go_loopw [10] (fun i wr=>∃ k:Nat,k<=n∧i=.int .i64 k∧Hid (∀ j,j < k->nedAt own l j=0)∧Ext (w.alloc (.cells pv 76)) wr) (fun i _=>n - (intOf i).toNat)
 case atStart=>exact⟨0,Nat.zero_le _,rfl,fun j h=>absurd h (Nat.not_lt_zero _),Ext.refl _⟩
 case round =>
  obtain⟨k,hk,rfl,H0,hxr0⟩:=hrel
  obtain⟨wo,rfl⟩:∃ wo:World,wo=wr:=⟨_,rfl⟩
  have hxr:=hxP.trans hxr0
  have bP2:=bP.ext hxr0
  by_cases hlt:k < n
  ·have hk1:k < l.length:=by rw[HN.out];exact hlt
   obtain⟨b,o,rfl,hX⟩:=(HR.out.ext hxr) (fun e=>by rw[e] at hk1;exact absurd hk1 (Nat.not_lt_zero _))
   obtain⟨A1,c1,hrow⟩:=hX k hk1
   have LD:=load_Ned hrow
   have hfr:=hrow.has
   have hsm:=HS.out _ (List.getElem_mem hk1)
   have HBAD:=Hy (HAT.out k hlt H0.out)
   have HNX:=Hy (show nedAt own l k=0->∀ j,j < k+1->nedAt own l j=0 from firstN_next H0.out)
   have HV:=Hy (show nedAt own l k=firstI [(if nameL (bs l[k].name)=true then 0 else 5),(if l[k].name=own then 13 else 0),(if (l.take k).any (fun m=>decide (m.name=l[k].name))=true then 6 else 0),rngErr l[k].fr] from by
    unfold nedAt
    simp[List.getD,List.getElem?_eq_getElem hk1])
   have CN:=Hy (fun W=>NameOf_any l[k].name W hsm.name)
   have CR:=Hy (fun W (h:Ext wo W)=>RangeError_any A1 l[k].fr.length c1 l[k].fr W (HG.out.ext (hxr.trans h)) rfl (hfr.ext h) hsm.fr hsm.len)
   obtain⟨V,hV⟩:∃ V:Nat->Value,∀ j (hj:j < l.length),∃ A2 c2,V j=nedV l[j] A2 c2∧NedRow wo b (o+j * 2) l[j] A2 c2 :=
    ⟨fun j=>if h:j < l.length then nedV l[j] (Classical.choose (hX j h)) (Classical.choose (Classical.choose_spec (hX j h))) else .bool false,fun j hj=>⟨_,_,dif_pos hj,Classical.choose_spec (Classical.choose_spec (hX j hj))⟩⟩
   have CC:=Hy (show ∀ W,Ext wo W->W.cell? ⟨wo.heap.size,0,none⟩=some (.string l[k].name)->Calls Tryz.prog 193 #[.slice (some ⟨b,o,none⟩) k c,.func (.func 194) #[] #[.pointer (some ⟨wo.heap.size,0,none⟩)]] W fun e w'=>e=.returned (.bool ((l.take k).any (fun m=>decide (m.name=l[k].name))))∧Ext W w' from fun W hW hc=>by
    rw[<-any_take l k hk1]
    refine ContainsFuncNed_any _ k c b o V _ _ _ W (fun _=>rfl) (by omega) (fun _ _=>rfl) (fun q hq W' hW'=>?_) (fun q hq W' hW'=>?_)
    ·obtain⟨A2,c2,e,hr2⟩:=hV q (by omega)
     rw[e]
     exact load_Ned ((hr2.ext hW).ext hW')
    ·obtain⟨A2,c2,e,hr2⟩:=hV q (by omega)
     rw[e]
     have:=listC_any l[q] A2 c2 wo.heap.size l[k].name W' (hW'.cell hc)
     simpa [List.getD,List.getElem?_eq_getElem (show q < l.length by omega)] using this)
   clear hX hrow hV hfr hsm
   have hq2:=dec_toL l[k].name own
   generalize hV0:nedAt own l k=Z at *
   clear hV0
   generalize (l.take k).any (fun m=>decide (m.name=l[k].name))=AN at *
   generalize l[k]=m at *
   obtain⟨mn,mf⟩:=m
   dsimp only[nedV] at *
   generalize mf.length=fl at *
   generalize nameL (bs mn)=Q1 at *
   generalize rngErr mf=R at *
   obtain⟨D2,hD2⟩:∃ D2,decide (mn=own)=D2:=⟨_,rfl⟩
   rw[hD2] at hq2
   have HV2:=Hy (show Z=firstI [(if (!Q1)=true then 5 else 0),(if D2=true then 13 else 0),(if AN=true then 6 else 0),R] from by rw[HV.out,<-hD2];simp only[decide_eq_true_eq];cases Q1<;>rfl)
   clear hD2 HV
   have CW1:=Hy (fun W=>When_any (!Q1) 5 W)
   have CW2:=Hy (fun W=>When_any D2 13 W)
   have CW3:=Hy (fun W=>When_any AN 6 W)
   obtain⟨X1,hX1⟩:∃ X,(if (!Q1)=true then (5:Int) else 0)=X:=⟨_,rfl⟩
   obtain⟨X2,hX2⟩:∃ X,(if D2=true then (13:Int) else 0)=X:=⟨_,rfl⟩
   obtain⟨X3,hX3⟩:∃ X,(if AN=true then (6:Int) else 0)=X:=⟨_,rfl⟩
   rw[hX1,hX2,hX3] at HV2
   rw[hX1] at CW1
   rw[hX2] at CW2
   rw[hX3] at CW3
   clear hX1 hX2 hX3
   have b1:=Blk.new wo 253 #[.string mn,.slice A1 fl c1]
   have hxa:Ext wo (wo.alloc (.cells #[.string mn,.slice A1 fl c1] 253)):=(Ext.refl wo).alloc _
   have bP3:=bP2.ext hxa
   generalize hW1:wo.alloc (.cells #[.string mn,.slice A1 fl c1] 253)=W1 at *
   have HW1:=Hy hW1
   clear hW1
   have e1:=b1.cell;have l1:=b1.lt
   have eP:W1.cell? ⟨w.heap.size,0,none⟩=some (.string own):=(bP3.cell 0).trans hp0
   have lP:=bP3.lt
   have CC1:=Hy (fun W (h:Ext W1 W)=>CC.out W (hxa.trans h) (h.cell (e1 0)))
   clear CC
   have hkc:k<=c:=by omega
   go_wp2_with (refine wpList_load_at rfl _ _ rfl _ rfl _ LD ?_)
   rw[HW1.out]
   clear LD
   refine wp_region_ext_tail 20 (by kernel_rfl) (by kernel_rfl) ?_
   simp only[List.take_succ_cons,List.take_zero,List.drop_succ_cons,List.drop_zero]
   repeat (first|go_big_quiet_skip|(refine wpQuiet_step (fun K hK=>?_);go_simp;first|(refine hK _ ?_;clear hK K)|(apply Exists.intro;refine⟨fun wq hwq=>?_,hK _ ?_⟩;(obtain⟨hqc,hqf⟩:=hwq.cells;have hqs:=hwq.size;(try go_simp);first|rfl|((first|rw[if_neg (by omega)]|rw[if_pos (by omega)]);(try go_simp);rfl)|(((first|(go_at_call 19;exact (CN.out _).mono (fun e w'' h=>⟨h.1,hwq.trans h.2⟩))|(go_at_call 29;exact (CR.out _ (hxa.trans hwq)).mono (fun e w'' h=>⟨h.1,hwq.trans h.2⟩))|(go_at_call 193;exact (CC1.out _ hwq).mono (fun e w'' h=>⟨h.1,hwq.trans h.2⟩))|(go_at_call 46;exact (CW1.out _).mono (fun e w'' h=>⟨h.1,h.2 ▸ hwq⟩))|(go_at_call 46;exact (CW2.out _).mono (fun e w'' h=>⟨h.1,h.2 ▸ hwq⟩))|(go_at_call 46;exact (CW3.out _).mono (fun e w'' h=>⟨h.1,h.2 ▸ hwq⟩))))));clear hK K)))
   refine wpQuiet_nil ?_
   intro wN hxN
   obtain⟨hcN,hfN⟩:=hxN.cells
   have hsN:=hxN.size
   have hx03:=hxa.trans hxN
   go_wp2_with fail
   refine (First_any _ _ [X1,X2,X3,R] _ ?_ (by simp)).mono ?_
   ·intro k hk
    rw[World.cell?_alloc_at _ _ _ _ rfl]
    match k,hk with
    | 0,_=>rfl
    | 1,_=>rfl
    | 2,_=>rfl
    | 3,_=>rfl
   rw[<-HV2.out]
   rintro e w' ⟨rfl,rfl⟩
   clear e1 l1 eP lP hcN hfN hsN hq2
   by_cases hR:Z=0
   ·have HO:=Hy (HNX.out hR)
    subst hR
    go_wp2
    go_roundw
    case rel=>exact⟨k+1,by omega,by go_num,HO.out,(hxr0.trans hx03).alloc _⟩
    case measure=>simp[intOf];omega
   ·have HE:=Hy (HBAD.out hR)
    have hne:(Z != 0)=true:=by rw[bne_iff_ne];exact hR
    clear hR
    go_wp2
    go_ret
    exact⟨ret_int HE.out.symm,(hxr.trans hx03).alloc _⟩
  ·obtain rfl:k=n:=by omega
   have H1:=Hy (HALL.out H0.out)
   go_wp2
   go_ret
   exact⟨ret_int H1.out.symm,hxr⟩
end
section
open Go.RowKit
theorem idx_mem (v:List ByteArray) (x:ByteArray):decide (0<=Lib.idxOfS v x)=memB x v:=by
 rw[Bool.eq_iff_iff,decide_eq_true_eq,Lib.idxOfS_nonneg_iff,memB_iff]
set_option maxHeartbeats 2000000 in
theorem ContainsX_any (A:Option Addr) (c j:Nat) (v:List ByteArray) (x:ByteArray) (w:World) (hr:RdX w A v) (hl:v.length<=2097152) (hn:v≠[]) (hj:j<=v.length) :
 Calls Tryz.prog 130 #[.slice A j c,.string x] w fun e w'=>e=.returned (.bool (memB x (v.take j)))∧w=w':=by
 obtain⟨b,o,rfl,hk⟩:=hr hn
 have CI:=Hy (Tryz.slices_Index_string b o j c v x w hj (by omega) (fun i hi=>by rw[hk i hi];simp[List.getD,List.getElem?_eq_getElem hi]))
 have HI:=Hy (idx_mem (v.take j) x)
 generalize Lib.idxOfS (v.take j) x=z at *
 generalize memB x (v.take j)=r at *
 clear hk hr
 go_enter Tryz.func130,Tryz.ntmps130
 go_wp2_with fail
 refine CI.out.mono ?_
 rintro e w1 ⟨rfl,rfl⟩
 go_wp2
 go_ret
 exact⟨ret_bool (by rw[<-HI.out]),rfl⟩
def cpErr (bef:List Cmp) (p:Cmp):Int :=
 firstI [(if nameL (bs p.name)=true then 0 else 5),(if bef.any (fun d=>decide (d.name=p.name))=true then 6 else 0),(if valueL (bs p.title)=true then 0 else 2),checkC p.wh,cnErr p,citErr p,cstErr p]
theorem cpAt_eq (l:List Cmp) (i:Nat):cpAt l i=cpErr (l.take i) (l.getD i zeroP):=rfl
theorem compC_any (q:Cmp) (k:Int) (n x:ByteArray) (A2:Option Addr) (m c2:Nat) (A3:Option Addr) (c3:Nat) (A4:Option Addr) (c4:Nat) (A5:Option Addr) (c5:Nat) (g:Nat) (nm:ByteArray) (w:World) (hc:w.cell? ⟨g,0,none⟩=some (.string nm)) :
 Calls Tryz.prog 205 (#[cmV q k n x A2 m c2 A3 c3 A4 c4 A5 c5]++#[.pointer (some ⟨g,0,none⟩)]) w fun e w'=>e=.returned (.bool (decide (q.name=nm)))∧Ext w w':=by
 have hq:=dec_toL q.name nm
 generalize decide (q.name=nm)=D at *
 obtain⟨qn,qt,qd,qa,qw,qe,qi,qs⟩:=q
 dsimp only[cmV] at *
 generalize qe.length=l3 at *
 generalize qi.length=l4 at *
 generalize qs.length=l5 at *
 have hg:=lt_of_cell hc
 go_enter Tryz.func205,Tryz.ntmps205
 go_wp2
 go_ret
 exact⟨rfl,(Ext.refl w).alloc _⟩
theorem any_all {α:Type} (l:List α) (p:α->Bool) (z:α):anyN l.length (fun j=>p (l.getD j z))=l.any p:=by
 unfold anyN
 rw[Bool.eq_iff_iff,List.any_eq_true,List.any_eq_true]
 constructor
 ·rintro ⟨j,hj,h⟩
  have hj:=List.mem_range.1 hj
  exact⟨l[j],List.getElem_mem hj,by simpa [List.getD,List.getElem?_eq_getElem hj] using h⟩
 ·rintro ⟨m,hm,h⟩
  obtain⟨j,hj,rfl⟩:=List.mem_iff_getElem.1 hm
  exact⟨j,List.mem_range.2 hj,by simpa [List.getD,List.getElem?_eq_getElem hj] using h⟩
theorem ContainsCm_any (fid:FuncId) (hen:∀ xs w,Sem.run Tryz.prog (callFunc fid xs) w=.ok (.enter fid xs) w) (l:List Cmp) (A:Option Addr) (n c g:Nat) (nm:ByteArray) (w:World) (hn:l.length=n) (hr:RdC w A l) (hl:n<=2097152) (_hc:w.cell? ⟨g,0,none⟩=some (.string nm))
 (hf:∀ (q:Cmp) k n x A2 m c2 A3 c3 A4 c4 A5 c5 W,Ext w W->Calls Tryz.prog fid (#[cmV q k n x A2 m c2 A3 c3 A4 c4 A5 c5]++#[.pointer (some ⟨g,0,none⟩)]) W fun e w'=>e=.returned (.bool (decide (q.name=nm)))∧Ext W w') :
 Calls Tryz.prog 128 #[.slice A n c,.func (.func fid) #[] #[.pointer (some ⟨g,0,none⟩)]] w fun e w'=>e=.returned (.bool (l.any fun d=>decide (d.name=nm)))∧Ext w w':=by
 subst hn
 rw[<-any_all l (fun d=>decide (d.name=nm)) zeroP]
 rcases Nat.eq_zero_or_pos l.length with h0|h0
 ·exact ContainsFuncCm_any A l.length c 0 0 (fun _=>.bool false) _ _ _ w (fun h=>by omega) hl hen (fun q hq=>by omega) (fun q hq=>by omega)
 ·obtain⟨b,o,rfl,hX⟩:=hr (fun e=>by rw[e] at h0;exact absurd h0 (Nat.lt_irrefl _))
  obtain⟨V,hV⟩:∃ V:Nat->Value,∀ j (hj:j < l.length),∃ k n x A2 m c2 A3 c3 A4 c4 A5 c5,V j=cmV l[j] k n x A2 m c2 A3 c3 A4 c4 A5 c5∧CmRow w b (o+j * 11) l[j] k n x A2 m c2 A3 c3 A4 c4 A5 c5:=by
   have:∀ j,∃ v:Value,∀ hj:j < l.length,∃ k n x A2 m c2 A3 c3 A4 c4 A5 c5,v=cmV l[j] k n x A2 m c2 A3 c3 A4 c4 A5 c5∧CmRow w b (o+j * 11) l[j] k n x A2 m c2 A3 c3 A4 c4 A5 c5:=fun j=>by
    by_cases hj:j < l.length
    ·obtain⟨k,n,x,A2,m,c2,A3,c3,A4,c4,A5,c5,h⟩:=hX j hj
     exact⟨cmV l[j] k n x A2 m c2 A3 c3 A4 c4 A5 c5,fun _=>⟨k,n,x,A2,m,c2,A3,c3,A4,c4,A5,c5,rfl,h⟩⟩
    ·exact⟨.bool false,fun h=>absurd h hj⟩
   exact⟨fun j=>Classical.choose (this j),fun j hj=>Classical.choose_spec (this j) hj⟩
  refine ContainsFuncCm_any _ l.length c b o V _ _ _ w (fun _=>rfl) hl hen (fun q hq W hW=>?_) (fun q hq W hW=>?_)
  ·obtain⟨k,n,x,A2,m,c2,A3,c3,A4,c4,A5,c5,e,h⟩:=hV q hq
   rw[e]
   exact load_Cm (h.ext hW)
  ·obtain⟨k,n,x,A2,m,c2,A3,c3,A4,c4,A5,c5,e,h⟩:=hV q hq
   rw[e]
   have:=hf l[q] k n x A2 m c2 A3 c3 A4 c4 A5 c5 W hW
   simpa [List.getD,List.getElem?_eq_getElem hq] using this
end
section
open Go.RowKit
def cmpAt (l:List Cmp) (nm:ByteArray):Int:=findN l.length fun j=>decide ((l.getD j zeroP).name=nm)
theorem cmpAt_cases (l:List Cmp) (nm:ByteArray):(∃ (k:Nat) (h:k < l.length),cmpAt l nm=k∧l[k].name=nm)∨(cmpAt l nm=-1∧isComp l nm=false):=by
 unfold cmpAt findN
 cases h:(List.range l.length).find? (fun j=>decide ((l.getD j zeroP).name=nm)) with
 | some k =>
   have h1:=List.mem_range.1 (List.mem_of_find?_eq_some h)
   have h2:=List.find?_some h
   simp only[decide_eq_true_eq,List.getD,List.getElem?_eq_getElem h1,Option.getD_some] at h2
   exact .inl ⟨k,h1,rfl,h2⟩
 | none =>
   refine .inr ⟨rfl,?_⟩
   rw[List.find?_eq_none] at h
   unfold isComp
   rw[List.any_eq_false]
   intro c hc
   obtain⟨j,hj,rfl⟩:=List.mem_iff_getElem.1 hc
   have:=h j (List.mem_range.2 hj)
   simpa [List.getD,List.getElem?_eq_getElem hj] using this
theorem cmpAt_neg (l:List Cmp) (nm:ByteArray):decide (cmpAt l nm < 0)=!isComp l nm:=by
 rcases cmpAt_cases l nm with ⟨k,h,e,hk⟩|⟨e,h⟩
 ·rw[e,<-hk,isComp_at h]
  simp
 ·rw[e,h];rfl
theorem IndexCm_any (fid:FuncId) (hen:∀ xs w,Sem.run Tryz.prog (callFunc fid xs) w=.ok (.enter fid xs) w) (l:List Cmp) (A:Option Addr) (n c g:Nat) (nm:ByteArray) (w:World) (hn:l.length=n) (hr:RdC w A l) (hl:n<=2097152) (_hc:w.cell? ⟨g,0,none⟩=some (.string nm))
 (hf:∀ (q:Cmp) k n x A2 m c2 A3 c3 A4 c4 A5 c5 W,Ext w W->Calls Tryz.prog fid (#[cmV q k n x A2 m c2 A3 c3 A4 c4 A5 c5]++#[.pointer (some ⟨g,0,none⟩)]) W fun e w'=>e=.returned (.bool (decide (q.name=nm)))∧Ext W w') :
 Calls Tryz.prog 44 #[.slice A n c,.func (.func fid) #[] #[.pointer (some ⟨g,0,none⟩)]] w fun e w'=>e=.returned (.int .i64 (cmpAt l nm))∧Ext w w':=by
 subst hn
 unfold cmpAt
 rcases Nat.eq_zero_or_pos l.length with h0|h0
 ·exact IndexFuncCm_any A l.length c 0 0 (fun _=>.bool false) _ _ _ w (fun h=>by omega) hl hen (fun q hq=>by omega) (fun q hq=>by omega)
 ·obtain⟨b,o,rfl,hX⟩:=hr (fun e=>by rw[e] at h0;exact absurd h0 (Nat.lt_irrefl _))
  obtain⟨V,hV⟩:∃ V:Nat->Value,∀ j (hj:j < l.length),∃ k n x A2 m c2 A3 c3 A4 c4 A5 c5,V j=cmV l[j] k n x A2 m c2 A3 c3 A4 c4 A5 c5∧CmRow w b (o+j * 11) l[j] k n x A2 m c2 A3 c3 A4 c4 A5 c5:=by
   have:∀ j,∃ v:Value,∀ hj:j < l.length,∃ k n x A2 m c2 A3 c3 A4 c4 A5 c5,v=cmV l[j] k n x A2 m c2 A3 c3 A4 c4 A5 c5∧CmRow w b (o+j * 11) l[j] k n x A2 m c2 A3 c3 A4 c4 A5 c5:=fun j=>by
    by_cases hj:j < l.length
    ·obtain⟨k,n,x,A2,m,c2,A3,c3,A4,c4,A5,c5,h⟩:=hX j hj
     exact⟨cmV l[j] k n x A2 m c2 A3 c3 A4 c4 A5 c5,fun _=>⟨k,n,x,A2,m,c2,A3,c3,A4,c4,A5,c5,rfl,h⟩⟩
    ·exact⟨.bool false,fun h=>absurd h hj⟩
   exact⟨fun j=>Classical.choose (this j),fun j hj=>Classical.choose_spec (this j) hj⟩
  refine IndexFuncCm_any _ l.length c b o V _ _ _ w (fun _=>rfl) hl hen (fun q hq W hW=>?_) (fun q hq W hW=>?_)
  ·obtain⟨k,n,x,A2,m,c2,A3,c3,A4,c4,A5,c5,e,h⟩:=hV q hq
   rw[e]
   exact load_Cm (h.ext hW)
  ·obtain⟨k,n,x,A2,m,c2,A3,c3,A4,c4,A5,c5,e,h⟩:=hV q hq
   rw[e]
   have:=hf l[q] k n x A2 m c2 A3 c3 A4 c4 A5 c5 W hW
   simpa [List.getD,List.getElem?_eq_getElem hq] using this
theorem atC_any (q:Cmp) (k:Int) (n x:ByteArray) (A2:Option Addr) (m c2:Nat) (A3:Option Addr) (c3:Nat) (A4:Option Addr) (c4:Nat) (A5:Option Addr) (c5:Nat) (g:Nat) (nm:ByteArray) (w:World) (hc:w.cell? ⟨g,0,none⟩=some (.string nm)) :
 Calls Tryz.prog 199 (#[cmV q k n x A2 m c2 A3 c3 A4 c4 A5 c5]++#[.pointer (some ⟨g,0,none⟩)]) w fun e w'=>e=.returned (.bool (decide (q.name=nm)))∧Ext w w':=by
 have hq:=dec_toL q.name nm
 generalize decide (q.name=nm)=D at *
 obtain⟨qn,qt,qd,qa,qw,qe,qi,qs⟩:=q
 dsimp only[cmV] at *
 generalize qe.length=l3 at *
 generalize qi.length=l4 at *
 generalize qs.length=l5 at *
 have hg:=lt_of_cell hc
 go_enter Tryz.func199,Tryz.ntmps199
 go_wp2
 go_ret
 exact⟨rfl,(Ext.refl w).alloc _⟩
set_option maxHeartbeats 2000000 in
set_option maxRecDepth 100000 in
theorem at_any (pv:Array Value) (l:List Cmp) (A:Option Addr) (n c:Nat) (nm:ByteArray) (w:World) (hp8:pv[8]?=some (.slice A n c)) (hp:pv.size=10) (hn:l.length=n) (hr:RdC w A l) (hl:n<=2097152) :
 Calls Tryz.prog 117 #[.agg pv,.string nm] w fun e w'=>e=.returned (.int .i64 (cmpAt l nm))∧Ext w w':=by
 have b0:=Blk.new w 76 pv
 have hx0:Ext w (w.alloc (.cells pv 76)):=(Ext.refl w).alloc _
 generalize hW0:w.alloc (.cells pv 76)=W0 at *
 have b1:=Blk.new W0 9 #[.string nm]
 have hx1:Ext W0 (W0.alloc (.cells #[.string nm] 9)):=(Ext.refl W0).alloc _
 generalize hW1:W0.alloc (.cells #[.string nm] 9)=W1 at *
 have hx01:=hx0.trans hx1
 have CI:=Hy (IndexCm_any 199 (fun _ _=>rfl) l A n c W0.heap.size nm W1 hn (hr.ext hx01) hl (b1.cell 0) (fun q k n x A2 m c2 A3 c3 A4 c4 A5 c5 W' hW'=>atC_any q k n x A2 m c2 A3 c3 A4 c4 A5 c5 W0.heap.size nm W' (hW'.cell (b1.cell 0))))
 have hs1:W0.heap.size=w.heap.size+1:=by rw[<-hW0,World.size_alloc]
 rw[hs1] at CI
 have hv8:∀ h:8 < pv.size,pv[8]=.slice A n c:=fun h=>by
  rw[Array.getElem?_eq_getElem h] at hp8
  exact Option.some.inj hp8
 have HV8:=Hy (hv8 (by omega))
 generalize cmpAt l nm=Z at *
 have HW0:=Hy hW0
 have HW1:=Hy hW1
 clear hW0 hW1 hr hp8 hs1 hv8 b0 b1
 go_enter Tryz.func117,Tryz.ntmps117
 go_wp2_with fail
 rw[HW0.out,HW1.out,HV8.out]
 refine CI.out.mono ?_
 rintro e w2 ⟨rfl,hx2⟩
 go_wp2
 go_ret
 exact⟨rfl,hx01.trans hx2⟩
end
section
open Go.RowKit
set_option maxHeartbeats 8000000 in
set_option maxRecDepth 100000 in
theorem headFault_any (p:Pkg) (A:Option Addr) (c:Nat) (A2:Option Addr) (c2:Nat) (A3:Option Addr) (c3:Nat) (A4:Option Addr) (c4:Nat) (w:World) (hg:Good w) (hp:PkIn w p A c A2 c2 A3 c3 A4 c4) (hs:SmallP p) :
 Calls Tryz.prog 119 #[pkV p A c A2 c2 A3 c3 A4 c4] w fun e w'=>e=.returned (.int .i64 (headErr p))∧Ext w w':=by
 have CN:=Hy (fun W=>IsName_any p.name W hs.name)
 have CV:=Hy (show ∀ W,Ext w W->Calls Tryz.prog 17 #[.agg #[.int .i64 p.vv.a1,.int .i64 p.vv.a2,.int .i64 p.vv.a3,.string p.vv.a]] W fun e w'=>e=.returned (.int .i64 p.vv.err)∧Ext W w' from fun W h=>Check_any p.vv.a1 p.vv.a2 p.vv.a3 p.vv.a W (hg.ext h) hs.vv)
 have CT:=Hy (fun W=>IsValue_any p.title W hs.title)
 have C1:=Hy (fun W (h:Ext w W)=>needsFault_any p.name p.needs A p.needs.length c W (hg.ext h) rfl hp.cap.1 (hp.needs.ext h) hs.needs hs.nlen)
 have C2:=Hy (fun W (h:Ext w W)=>needsFault_any p.name p.bars A2 p.bars.length c2 W (hg.ext h) rfl hp.cap.2.1 (hp.bars.ext h) hs.bars hs.blen)
 have hsn:=hs.nlen
 have hsb:=hs.blen
 have hsc:=hs.clen
 have HE:=Hy (show headErr p=firstI [(if nameL (bs p.name)=true then 0 else 5),p.vv.err,(if valueL (bs p.title)=true then 0 else 2),(if 20 < p.needs.length∨20 < p.bars.length then 4 else 0),nedErr p.name p.needs,nedErr p.name p.bars,(if p.comps.length=0 then 9 else 0),(if 30 < p.comps.length then 4 else 0)] from rfl)
 clear hg hp hs
 generalize headErr p=E at *
 generalize nedErr p.name p.needs=E1 at *
 generalize nedErr p.name p.bars=E2 at *
 generalize nameL (bs p.name)=Q1 at *
 generalize valueL (bs p.title)=Q2 at *
 generalize p.vv.err=EV at *
 obtain⟨pn,⟨v1,v2,v3,va⟩,pt,pe,pb,pc,pm⟩:=p
 dsimp only[pkV] at *
 generalize pe.length=l1 at *
 generalize pb.length=l2 at *
 generalize pc.length=l3 at *
 generalize pm.length=l4 at *
 have b0:=Blk.new w 76 #[.string pn,.int .i64 v1,.int .i64 v2,.int .i64 v3,.string va,.string pt,.slice A l1 c,.slice A2 l2 c2,.slice A3 l3 c3,.slice A4 l4 c4]
 have hx0:Ext w (w.alloc (.cells #[.string pn,.int .i64 v1,.int .i64 v2,.int .i64 v3,.string va,.string pt,.slice A l1 c,.slice A2 l2 c2,.slice A3 l3 c3,.slice A4 l4 c4] 76)):=(Ext.refl w).alloc _
 generalize hW:w.alloc (.cells #[.string pn,.int .i64 v1,.int .i64 v2,.int .i64 v3,.string va,.string pt,.slice A l1 c,.slice A2 l2 c2,.slice A3 l3 c3,.slice A4 l4 c4] 76)=W0 at *
 have HW:=Hy hW
 clear hW
 have e0:=b0.cell;have l0:=b0.lt
 go_enter Tryz.func119,Tryz.ntmps119
 go_wp2_with fail
 rw[HW.out]
 refine (CN.out _).mono ?_
 rintro e w' ⟨rfl,rfl⟩
 cases Q1
 ·go_wp2
  go_ret
  exact⟨ret_int (by rw[HE.out];simp[firstI]),hx0⟩
 go_wp2_with fail
 refine (CV.out _ hx0).mono ?_
 rintro e w1 ⟨rfl,hx1⟩
 have hx01:=hx0.trans hx1
 have b1:=b0.ext hx1
 clear e0
 have e1:=b1.cell;have l1':=b1.lt
 by_cases h1:EV=0
 rotate_left
 ·have hne:(EV != 0)=true:=by rw[bne_iff_ne];exact h1
  have H1:=Hy h1
  clear h1
  go_wp2
  go_ret
  exact⟨ret_int (by rw[HE.out];simp[firstI,H1.out]),hx01⟩
 subst h1
 go_wp2_with fail
 refine (CT.out _).mono ?_
 rintro e w' ⟨rfl,rfl⟩
 cases Q2
 ·go_wp2
  go_ret
  exact⟨ret_int (by rw[HE.out];simp[firstI]),hx01⟩
 by_cases h20:20 < l1
 ·have HEE:=Hy (show E=4 from by rw[HE.out];simp[firstI,h20])
  go_wp2
  go_ret
  exact⟨ret_int HEE.out.symm,hx01⟩
 by_cases h21:20 < l2
 ·have HEE:=Hy (show E=4 from by rw[HE.out];simp[firstI,h21])
  go_wp2
  go_ret
  exact⟨ret_int HEE.out.symm,hx01⟩
 have HE2:=Hy (show E=firstI [E1,E2,(if l3=0 then 9 else 0),(if 30 < l3 then 4 else 0)] from by rw[HE.out];simp[firstI,h20,h21])
 clear HE
 go_wp2
 have i0:∀ w,(Instr.index 263 (.agg #[.slice A l1 c,.slice A2 l2 c2]) (.int .i64 0)).run Tryz.prog w=.ok (.slice A l1 c) w:=fun _=>by kernel_rfl
 have i1:∀ w,(Instr.index 263 (.agg #[.slice A l1 c,.slice A2 l2 c2]) (.int .i64 1)).run Tryz.prog w=.ok (.slice A2 l2 c2) w:=fun _=>by kernel_rfl
 go_loopw [36] (fun i wq=>Ext w1 wq∧(i=.int .i64 0∨(i=.int .i64 1∧Hid (E1=0))∨(i=.int .i64 2∧Hid (E1=0)∧Hid (E2=0)))) (fun i _=>2 - (intOf i).toNat)
 case atStart=>exact⟨Ext.refl _,.inl rfl⟩
 case round =>
  obtain⟨hxr,hi⟩:=hrel
  obtain⟨wo,rfl⟩:∃ wo:World,wo=wr:=⟨_,rfl⟩
  have hx0r:=hx01.trans hxr
  have b2:=b1.ext hxr
  clear e1
  have e2:=b2.cell;have l2':=b2.lt
  rcases hi with rfl|⟨rfl,Z1⟩|⟨rfl,Z1,Z2⟩
  ·go_wp2_with fail
   refine (C1.out _ hx0r).mono ?_
   rintro e w3 ⟨rfl,hx3⟩
   by_cases hZ:E1=0
   ·have HO:=Hy hZ
    clear hZ
    have hne:(E1 != 0)=false:=by rw[HO.out];rfl
    go_wp2
    go_roundw
    case rel=>exact⟨hxr.trans hx3,.inr (.inl ⟨rfl,HO⟩)⟩
    case measure=>simp[intOf]
   ·have HEE:=Hy (show E=E1 from by rw[HE2.out];simp[firstI,hZ])
    have hne:(E1 != 0)=true:=by rw[bne_iff_ne];exact hZ
    clear hZ
    go_wp2
    go_ret
    exact⟨ret_int HEE.out.symm,hx0r.trans hx3⟩
  ·go_wp2_with fail
   refine (C2.out _ hx0r).mono ?_
   rintro e w3 ⟨rfl,hx3⟩
   by_cases hZ:E2=0
   ·have HO:=Hy hZ
    clear hZ
    have hne:(E2 != 0)=false:=by rw[HO.out];rfl
    go_wp2
    go_roundw
    case rel=>exact⟨hxr.trans hx3,.inr (.inr ⟨rfl,Z1,HO⟩)⟩
    case measure=>simp[intOf]
   ·have HEE:=Hy (show E=E2 from by rw[HE2.out,Z1.out];simp[firstI,hZ])
    have hne:(E2 != 0)=true:=by rw[bne_iff_ne];exact hZ
    clear hZ
    go_wp2
    go_ret
    exact⟨ret_int HEE.out.symm,hx0r.trans hx3⟩
  ·have HE3:=Hy (show E=firstI [(if l3=0 then 9 else 0),(if 30 < l3 then 4 else 0)] from by rw[HE2.out,Z1.out,Z2.out];simp[firstI])
   by_cases h9:l3=0
   ·have HEE:=Hy (show E=9 from by rw[HE3.out];simp[firstI,h9])
    subst h9
    go_wp2
    go_ret
    exact⟨ret_int HEE.out.symm,hx0r⟩
   by_cases h30:30 < l3
   ·have HEE:=Hy (show E=4 from by rw[HE3.out];simp[firstI,h9,h30])
    go_wp2
    go_ret
    exact⟨ret_int HEE.out.symm,hx0r⟩
   have HEE:=Hy (show E=0 from by rw[HE3.out];simp[firstI,h9,h30])
   go_wp2
   go_ret
   exact⟨ret_int HEE.out.symm,hx0r⟩
end
section
open Go.RowKit
theorem addr_at (b o j:Nat):(⟨b,o,none⟩:Addr).add j=⟨b,o+j,none⟩:=by unfold Addr.add;split<;>simp_all
def itmC (x:Itm):List Value:=[.int .i64 x.kind,.string x.path,.string x.data,.bool x.runs,.string x.key,.string x.val,.string x.sn,.string x.sp,.bool x.auto,.bool x.on]
theorem itmC_length (x:Itm):(itmC x).length=10:=rfl
theorem itmC_flat (l:List Itm):(l.flatMap itmC).length=l.length * 10:=by
 induction l with
 | nil=>rfl
 | cons s l ih=>rw[List.flatMap_cons,List.length_append,ih,itmC_length,List.length_cons];omega
theorem itmC_one (l:List Itm):∀ u∈l.flatMap itmC,u.oneCell'=true:=by
 intro u hu
 obtain⟨s,_,h⟩:=List.mem_flatMap.1 hu
 simp only[itmC,List.mem_cons,List.not_mem_nil,or_false] at h
 rcases h with rfl|rfl|rfl|rfl|rfl|rfl|rfl|rfl|rfl|rfl<;>rfl
theorem itmC_cells {w:World} {b o:Nat} {l:List Itm} (h:∀ q (h:q < l.length),ItRow w b (o+q * 10) l[q]) (j:Nat) (u:Value) (hu:(l.flatMap itmC)[j]?=some u):w.cell? ⟨b,o+j,none⟩=some u:=by
 have hj:j < l.length * 10:=by
  rw[<-itmC_flat]
  rcases Nat.lt_or_ge j (l.flatMap itmC).length with h1|h1
  ·exact h1
  ·rw[List.getElem?_eq_none h1] at hu;cases hu
 have hk:j / 10 < l.length:=by omega
 have hi:j % 10 < 10:=Nat.mod_lt _ (by decide)
 have e:j=j / 10 * 10+j % 10:=by omega
 rw[e,flat_get (f:=itmC) (m:=10) itmC_length l (j / 10) (j % 10) hk hi] at hu
 rw[e,<-Nat.add_assoc]
 generalize j / 10=k at *
 generalize j % 10=i at *
 have h:=h k hk
 match i,hi,hu with
 | 0,_,hu=>injection hu with hu;subst hu;exact h.r0
 | 1,_,hu=>injection hu with hu;subst hu;exact h.r1
 | 2,_,hu=>injection hu with hu;subst hu;exact h.r2
 | 3,_,hu=>injection hu with hu;subst hu;exact h.r3
 | 4,_,hu=>injection hu with hu;subst hu;exact h.r4
 | 5,_,hu=>injection hu with hu;subst hu;exact h.r5
 | 6,_,hu=>injection hu with hu;subst hu;exact h.r6
 | 7,_,hu=>injection hu with hu;subst hu;exact h.r7
 | 8,_,hu=>injection hu with hu;subst hu;exact h.r8
 | 9,_,hu=>injection hu with hu;subst hu;exact h.r9
theorem rdi_own {w:World} {B n:Nat} {v:Value} {l:List Itm} (h:w.ownsRow B 104 10 v n (l.flatMap itmC)) (hn:l.length=n):∃ A c,v=.slice A n c∧n<=c∧RdI w A l:=by
 rcases Nat.eq_zero_or_pos n with h0|h0
 ·subst h0
  have he:l=[]:=List.eq_nil_of_length_eq_zero hn
  rcases h.2 with ⟨rfl,_⟩|⟨g,cap,cur,rfl,_⟩
  ·exact⟨none,0,rfl,Nat.le_refl _,fun e=>absurd he e⟩
  ·exact⟨_,_,rfl,Nat.zero_le _,fun e=>absurd he e⟩
 ·obtain⟨g,c,rfl,hlt,hB,hc,hcell⟩:=own_form h h0
  refine⟨_,_,rfl,hc,fun _=>⟨g,0,rfl,fun k hk=>?_⟩⟩
  have hx:∀ (j:Nat) (u:Value),(itmC l[k])[j]?=some u->w.cell? ⟨g,0+k * 10+j,none⟩=some u:=fun j u hu=>by
   have hj:j < 10:=by
    rcases Nat.lt_or_ge j 10 with h|h
    ·exact h
    ·rw[List.getElem?_eq_none (by rw[itmC_length];exact h)] at hu;cases hu
   rw[Nat.zero_add]
   exact hcell _ u (by rw[flat_get itmC_length l k j hk hj];exact hu)
  exact⟨hx 0 _ rfl,hx 1 _ rfl,hx 2 _ rfl,hx 3 _ rfl,hx 4 _ rfl,hx 5 _ rfl,hx 6 _ rfl,hx 7 _ rfl,hx 8 _ rfl,hx 9 _ rfl⟩
theorem info_itm:(Tryz.prog.info? 104).map (fun i=>(i.zero,i.size,i.bytes))=some (some (.agg #[.int .i64 0,.string ⟨#[]⟩,.string ⟨#[]⟩,.bool false,.string ⟨#[]⟩,.string ⟨#[]⟩,.string ⟨#[]⟩,.string ⟨#[]⟩,.bool false,.bool false]),10,120):=by kernel_rfl
set_option maxRecDepth 20000 in
theorem wpList_appI {ops:Array Oper} {rest:List Oper} {o:Oper} {a:Act} {Q:Exit->Act->World->Prop} (w:World) (hgd:o.guard=none) (s x:Operand)
 (ho:o.op=.call { callee:=.builtin .append,args:=#[s,x],argTypes:=#[79,79] })
 (B:Nat) (v:Value) (n:Nat) (xs:List Value) (hs:a.eval s=v) (hown:w.ownsRow B 104 10 v n xs) (A:Option Addr) (m c:Nat) (l:List Itm) (hx:a.eval x=.slice A m c) (hl:l.length=m) (hr:RdI w A l) (hn:n+m<=100000000) (hbase:B<=w.heap.size)
 (h:∀ v' w',w'.ownsRow B 104 10 v' (n+m) (xs++l.flatMap itmC)->(∀ a',Ext a' w->a'.heap.size<=B->Ext a' w')->wpList Tryz.prog ops Q rest (a.put o.dst v') w') :
 wpList Tryz.prog ops Q (o::rest) a w:=by
 obtain⟨i,hi,hz0,hz1,hz2⟩:=info_parts info_itm
 refine wpList_appAny w hgd s x 79 ho B 104 i _ 10 120 Tryz.underlying79 hi hz0 hz1 hz2 rfl (by decide) v n xs hs hown A m c (l.flatMap itmC) hx (by rw[itmC_flat,hl]) ?_ ?_ (itmC_one l) (by simp only[maxLen];omega) (by omega) hbase (fun v' w' h2 h3=>h v' w' h2 fun a' ha hB=>ha.grown hown hB h3)
 ·rintro rfl
  by_cases e:l=[]
  ·rw[<-hl,e];rfl
  ·obtain⟨_,_,h,_⟩:=hr e
   exact absurd h (by simp)
 ·rintro ad rfl j u hu
  by_cases e:l=[]
  ·rw[e] at hu;simp at hu
  ·obtain⟨b,o,h,hX⟩:=hr e
   injection h with h
   subst h
   rw[addr_at]
   exact itmC_cells hX j u hu
theorem itemsL_take (l:List Cmp) (k:Nat) (h:k < l.length):itemsL (l.take (k+1))=itemsL (l.take k)++l[k].items:=(flat_take_succ Cmp.items l k h).symm
theorem itemsL_le (l:List Cmp) (k:Nat):(itemsL (l.take k)).length<=(itemsL l).length:=by
 have e:itemsL l=itemsL (l.take k)++itemsL (l.drop k):=by unfold itemsL;rw[<-List.flatMap_append,List.take_append_drop]
 rw[e,List.length_append];omega
set_option maxHeartbeats 8000000 in
set_option maxRecDepth 100000 in
theorem items_any (p:Pkg) (A:Option Addr) (c:Nat) (A2:Option Addr) (c2:Nat) (A3:Option Addr) (c3:Nat) (A4:Option Addr) (c4:Nat) (w:World) (hp:PkIn w p A c A2 c2 A3 c3 A4 c4) (hl:p.comps.length<=2097152) (hall:(itemsL p.comps).length<=2097152) :
 Calls Tryz.prog 210 #[pkV p A c A2 c2 A3 c3 A4 c4] w fun e w'=>∃ A' c',e=.returned (.slice A' (itemsL p.comps).length c')∧(itemsL p.comps).length<=c'∧RdI w' A' (itemsL p.comps)∧Ext w w':=by
 have HR:=Hy hp.comps
 clear hp
 obtain⟨pn,⟨v1,v2,v3,va⟩,pt,pe,pb,l,pm⟩:=p
 dsimp only[pkV] at *
 generalize pe.length=l1 at *
 generalize pb.length=l2 at *
 generalize pm.length=l4 at *
 have HLE:=Hy (itemsL_le l)
 have HFIN:=Hy (show itemsL (l.take l.length)=itemsL l from by rw[List.take_length])
 have HALL:=Hy hall
 generalize hn:l.length=n at *
 have HN:=Hy hn
 have b0:=Blk.new w 76 #[.string pn,.int .i64 v1,.int .i64 v2,.int .i64 v3,.string va,.string pt,.slice A l1 c,.slice A2 l2 c2,.slice A3 n c3,.slice A4 l4 c4]
 have hx0:Ext w (w.alloc (.cells #[.string pn,.int .i64 v1,.int .i64 v2,.int .i64 v3,.string va,.string pt,.slice A l1 c,.slice A2 l2 c2,.slice A3 n c3,.slice A4 l4 c4] 76)):=(Ext.refl w).alloc _
 have hs0:(w.alloc (.cells #[.string pn,.int .i64 v1,.int .i64 v2,.int .i64 v3,.string va,.string pt,.slice A l1 c,.slice A2 l2 c2,.slice A3 n c3,.slice A4 l4 c4] 76)).heap.size=w.heap.size+1:=World.size_alloc _ _
 generalize hW0:w.alloc (.cells #[.string pn,.int .i64 v1,.int .i64 v2,.int .i64 v3,.string va,.string pt,.slice A l1 c,.slice A2 l2 c2,.slice A3 n c3,.slice A4 l4 c4] 76)=W0 at *
 have HW0:=Hy hW0
 have e0:=b0.cell
 clear hW0 hn hall
 go_enter Tryz.func210,Tryz.ntmps210
 go_wp2
 rw[HW0.out]
 go_loopw [3,9] (fun s i wr=>∃ k:Nat,k<=n∧i=.int .i64 k∧Hid (wr.ownsRow (w.heap.size+1) 104 10 s (itemsL (l.take k)).length ((itemsL (l.take k)).flatMap itmC))∧Ext W0 wr) (fun s i _=>n - (intOf i).toNat)
 case atStart=>exact⟨0,Nat.zero_le _,rfl,Hy (World.ownsRow_nil _ _ _ _),Ext.refl _⟩
 case round =>
  obtain⟨k,hk,rfl,HO,hxr⟩:=hrel
  obtain⟨wo,rfl⟩:∃ wo:World,wo=wr:=⟨_,rfl⟩
  have hB:=hxr.size
  rw[hs0] at hB
  have b2:=b0.ext hxr
  have e2:=b2.cell
  clear e0
  by_cases hlt:k < n
  ·have hk1:k < l.length:=by rw[HN.out];exact hlt
   obtain⟨b,o,rfl,hX⟩:=(HR.out.ext (hx0.trans hxr)) (fun e=>by rw[e] at hk1;exact absurd hk1 (Nat.not_lt_zero _))
   obtain⟨k0,n0,x0,A5,m5,c5,A6,c6,A7,c7,A8,c8,hrow⟩:=hX k hk1
   have LD:=load_Cm hrow
   have hit:=Hy hrow.has.items
   have HT:=Hy (itemsL_take l k hk1)
   have hle:=HLE.out (k+1)
   rw[HT.out,List.length_append] at hle
   have hal:=HALL.out
   have hsum:(itemsL (l.take k)).length+l[k].items.length<=100000000:=by omega
   clear hX hrow hle hal
   generalize l[k]=q at *
   obtain⟨qn,qt,qd,qa,qw,qe,qi,qs⟩:=q
   dsimp only[cmV] at *
   generalize qe.length=l6 at *
   generalize qs.length=l8 at *
   generalize h7:qi.length=l7 at *
   have H7:=Hy h7
   clear h7
   have b1:=Blk.new wo 82 #[.string qn,.string qt,.bool qd,.bool qa,.int .i64 k0,.string n0,.string x0,.slice A5 m5 c5,.slice A6 l6 c6,.slice A7 l7 c7,.slice A8 l8 c8]
   have hxa:Ext wo (wo.alloc (.cells #[.string qn,.string qt,.bool qd,.bool qa,.int .i64 k0,.string n0,.string x0,.slice A5 m5 c5,.slice A6 l6 c6,.slice A7 l7 c7,.slice A8 l8 c8] 82)):=(Ext.refl wo).alloc _
   have e1:=b1.cell;have l1':=b1.lt
   have hown1:=own_ext HO.out hxa
   have hB1:w.heap.size+1<=(wo.alloc (.cells #[.string qn,.string qt,.bool qd,.bool qa,.int .i64 k0,.string n0,.string x0,.slice A5 m5 c5,.slice A6 l6 c6,.slice A7 l7 c7,.slice A8 l8 c8] 82)).heap.size:=Nat.le_trans hB hxa.size
   go_wp2_with (first|(refine wpList_load_at rfl _ _ rfl _ rfl _ LD ?_)|(at_builtin;refine wpList_appI _ rfl _ _ rfl (w.heap.size+1) _ _ _ rfl hown1 A7 l7 c7 qi rfl H7.out (hit.out.ext hxa) hsum hB1 ?_;intro v' w' hown' hgrow))
   go_roundw
   case rel=>exact⟨k+1,by omega,by go_num,Hy (by rw[HT.out,List.length_append,List.flatMap_append,H7.out];exact hown'),hgrow _ (hxr.trans hxa) (by rw[hs0];exact Nat.le_refl _)⟩
   case measure=>simp[intOf];omega
  ·obtain rfl:k=n:=by omega
   have hf:=HO.out
   rw[HFIN.out] at hf
   obtain⟨A',c',rfl,hc',hrd⟩:=rdi_own hf rfl
   go_wp2
   go_ret
   exact⟨A',c',rfl,hc',hrd,hx0.trans hxr⟩
end
section
open Go.RowKit
set_option maxHeartbeats 4000000 in
set_option maxRecDepth 100000 in
theorem IndexFuncX_any (A:Option Addr) (n c b o:Nat) (V:Nat->ByteArray) (f:FuncId) (cp:Array Value) (p:Nat->Bool) (w:World) (hA:0 < n->A=some ⟨b,o,none⟩) (hl:n<=2097152)
 (hen:∀ xs w,Sem.run Tryz.prog (callFunc f xs) w=.ok (.enter f xs) w)
 (hrow:∀ k,k < n->∀ W,Ext w W->W.cell? ⟨b,o+k,none⟩=some (.string (V k)))
 (hp:∀ k,k < n->∀ W,Ext w W->Calls Tryz.prog f (#[.string (V k)]++cp) W fun e w'=>e=.returned (.bool (p k))∧Ext W w') :
 Calls Tryz.prog 229 #[.slice A n c,.func (.func f) #[] cp] w fun e w'=>e=.returned (.int .i64 (findN n p))∧Ext w w':=by
 have HP:=Hy hp
 have HR:=Hy hrow
 have HF:=Hy (fun k (hk:k < n) h0 h=>findN_at (p:=p) hk h0 h)
 have HN:=Hy (fun h0=>findN_none (n:=n) (p:=p) h0)
 generalize findN n p=Z at *
 clear hp hrow
 go_enter Tryz.func229,Tryz.ntmps229
 go_wp2
 go_loopw [8] (fun i wr=>∃ k:Nat,k<=n∧i=.int .i64 k∧Hid (∀ j,j < k->p j=false)∧Ext w wr) (fun i _=>n - (intOf i).toNat)
 case atStart=>exact⟨0,Nat.zero_le _,rfl,fun j h=>absurd h (Nat.not_lt_zero _),Ext.refl _⟩
 case round =>
  obtain⟨k,hk,rfl,HALL,hxr⟩:=hrel
  by_cases hlt:k < n
  ·obtain rfl:=hA (by omega)
   have HL:=HR.out k hlt _ hxr
   have HC:=Hy (HP.out k hlt)
   have HB:=Hy (show p k=true->Z=k from HF.out k hlt HALL.out)
   have HX:=Hy (show p k=false->∀ j,j < k+1->p j=false from allB_next HALL.out)
   generalize p k=r at *
   generalize V k=v at *
   go_wp2_with fail
   refine (HC.out _ hxr).mono ?_
   rintro e w1 ⟨rfl,hx1⟩
   clear HL
   cases r
   ·have H1:=Hy (HX.out rfl)
    go_wp2
    go_roundw
    case rel=>exact⟨k+1,by omega,by go_num,H1.out,hxr.trans hx1⟩
    case measure=>simp[intOf];omega
   ·have H1:=Hy (HB.out rfl)
    go_wp2
    go_ret
    exact⟨ret_int H1.out.symm,hxr.trans hx1⟩
  ·obtain rfl:k=n:=by omega
   have H1:=Hy (HN.out HALL.out)
   go_wp2
   go_ret
   exact⟨ret_int H1.out.symm,hxr⟩
set_option maxHeartbeats 1000000 in
theorem ContainsFuncX_any (v:List ByteArray) (A:Option Addr) (n c:Nat) (f:FuncId) (cp:Array Value) (p:ByteArray->Bool) (w:World) (hn:v.length=n) (hr:RdX w A v) (hl:n<=2097152)
 (hen:∀ xs w,Sem.run Tryz.prog (callFunc f xs) w=.ok (.enter f xs) w)
 (hp:∀ x∈v,∀ W,Ext w W->Calls Tryz.prog f (#[.string x]++cp) W fun e w'=>e=.returned (.bool (p x))∧Ext W w') :
 Calls Tryz.prog 208 #[.slice A n c,.func (.func f) #[] cp] w fun e w'=>e=.returned (.bool (v.any p))∧Ext w w':=by
 have HI:Calls Tryz.prog 229 #[.slice A n c,.func (.func f) #[] cp] w fun e w'=>e=.returned (.int .i64 (findN n fun j=>p (v.getD j ⟨#[]⟩)))∧Ext w w':=by
  subst hn
  rcases Nat.eq_zero_or_pos v.length with h0|h0
  ·exact IndexFuncX_any A v.length c 0 0 (fun _=>⟨#[]⟩) _ _ _ w (fun h=>by omega) hl hen (fun q hq=>by omega) (fun q hq=>by omega)
  ·obtain⟨b,o,rfl,hX⟩:=hr (fun e=>by rw[e] at h0;exact absurd h0 (Nat.lt_irrefl _))
   refine IndexFuncX_any _ v.length c b o (fun j=>v.getD j ⟨#[]⟩) _ _ _ w (fun _=>rfl) hl hen (fun q hq W hW=>?_) (fun q hq W hW=>?_)
   ·have:=hW.cell (hX q hq)
    simpa [List.getD,List.getElem?_eq_getElem hq] using this
   ·exact hp _ (by simp[List.getD,List.getElem?_eq_getElem hq]) W hW
 have CI:=Hy HI
 have HZ:=Hy (findN_any n fun j=>p (v.getD j ⟨#[]⟩))
 have HY:=Hy (any_all v p ⟨#[]⟩)
 rw[hn] at HY
 rw[HY.out] at HZ
 generalize (findN n fun j=>p (v.getD j ⟨#[]⟩))=z at *
 generalize v.any p=r at *
 clear hen hp HI hr HY
 go_enter Tryz.func208,Tryz.ntmps208
 go_wp2_with fail
 refine CI.out.mono ?_
 rintro e w1 ⟨rfl,hx1⟩
 go_wp2
 go_ret
 exact⟨ret_bool (by rw[<-HZ.out]),hx1⟩
end
section
open Go.RowKit
theorem load_Mw {w:World} {b o:Nat} {m:Mv} {A:Option Addr} {c:Nat} {A2:Option Addr} {c2:Nat} (h:MvRow w b o m A c A2 c2):(loadVar 195 ⟨b,o,none⟩).run Tryz.prog w=.ok (mvV m A c A2 c2) w:=by
 refine load_cellsT (z:=6) (by kernel_rfl) (by kernel_rfl) [.slice A m.fr.length c,.int .i64 m.tt.a1,.int .i64 m.tt.a2,.int .i64 m.tt.a3,.string m.tt.a,.slice A2 m.rules.length c2] rfl fun j v hj=>?_
 match j,hj with
 | 0,hj=>injection hj with hj;subst hj;exact h.r0
 | 1,hj=>injection hj with hj;subst hj;exact h.r1
 | 2,hj=>injection hj with hj;subst hj;exact h.r2
 | 3,hj=>injection hj with hj;subst hj;exact h.r3
 | 4,hj=>injection hj with hj;subst hj;exact h.r4
 | 5,hj=>injection hj with hj;subst hj;exact h.r5
set_option maxHeartbeats 2000000 in
set_option maxRecDepth 100000 in
theorem movC_any (x:ByteArray) (w:World) (hs:x.size<=2097152) :
 Calls Tryz.prog 218 (#[.string x]++#[]) w fun e w'=>e=.returned (.bool (decide (x.size=0)||!valueL (bs x)))∧Ext w w':=by
 have CV:=Hy (fun W=>IsValue_any x W hs)
 have HQ:=Hy (show (x.toList==[])=decide (x.size=0) from by
  rw[Bool.eq_iff_iff,beq_iff_eq,decide_eq_true_eq,ByteArray.toList_eq]
  cases x with|mk d=>simp[ByteArray.size])
 generalize decide (x.size=0)=Z at *
 generalize valueL (bs x)=V at *
 have hq:=HQ.out
 cases Z
 ·go_enter Tryz.func218,Tryz.ntmps218
  go_wp2_with fail
  refine (CV.out _).mono ?_
  rintro e w1 ⟨rfl,rfl⟩
  go_wp2
  go_ret
  exact⟨rfl,Ext.refl _⟩
 ·go_enter Tryz.func218,Tryz.ntmps218
  go_wp2
  go_ret
  exact⟨rfl,Ext.refl _⟩
end
section
open Go.RowKit
theorem all_any (l:List ByteArray):l.all (fun s=>decide (s.size≠0)&&valueL (bs s))=!l.any (fun x=>decide (x.size=0)||!valueL (bs x)):=by
 induction l with
 | nil=>rfl
 | cons x l ih =>
   rw[List.all_cons,List.any_cons,ih]
   by_cases h:x.size=0<;>cases valueL (bs x)<;>simp[h]
theorem bytes_take (l:List Itm) (k:Nat) (h:k < l.length):bytesOf (l.take (k+1))=bytesOf (l.take k)+l[k].data.size:=by
 unfold bytesOf
 rw[List.take_succ_eq_append_getElem h,List.map_append,List.sum_append]
 simp
theorem bytes_le (l:List Itm) (k:Nat):bytesOf (l.take k)<=bytesOf l:=by
 have e:bytesOf l=bytesOf (l.take k)+bytesOf (l.drop k):=by
  unfold bytesOf;rw[<-List.sum_append,<-List.map_append,List.take_append_drop]
 omega
set_option maxHeartbeats 8000000 in
set_option maxRecDepth 100000 in
theorem movesFault_any (p:Pkg) (A:Option Addr) (c:Nat) (A2:Option Addr) (c2:Nat) (A3:Option Addr) (c3:Nat) (A4:Option Addr) (c4:Nat) (w:World) (hg:Good w) (hp:PkIn w p A c A2 c2 A3 c3 A4 c4) (hs:SmallP p) :
 Calls Tryz.prog 123 #[pkV p A c A2 c2 A3 c3 A4 c4] w fun e w'=>e=.returned (.int .i64 (firstI [pmvErr p.moves,(if 524288 < bytesOf (itemsL p.comps) then 4 else 0)]))∧Ext w w':=by
 have CI:=Hy (fun W (h:Ext w W)=>items_any p A c A2 c2 A3 c3 A4 c4 W (hp.ext h) hs.clen hs.all)
 have HR:=Hy hp.moves
 have HS:=Hy hs.moves
 have HG:=Hy hg
 have hml:=hs.mlen
 have hbl:=hs.bytes
 have hal:=hs.all
 have HAT:=Hy (show ¬ 20 < p.moves.length->∀ k,k < p.moves.length->(∀ j,j < k->pmvAt p.moves j=0)->¬ pmvAt p.moves k=0->pmvErr p.moves=pmvAt p.moves k from fun h20 k hk h0 h=>by unfold pmvErr;rw[if_neg h20];exact firstN_at hk h0 h)
 have HZ:=Hy (show ¬ 20 < p.moves.length->(∀ j,j < p.moves.length->pmvAt p.moves j=0)->pmvErr p.moves=0 from fun h20 h0=>by unfold pmvErr;rw[if_neg h20];exact firstN_zero h0)
 have H20:=Hy (show 20 < p.moves.length->pmvErr p.moves=4 from fun h20=>by unfold pmvErr;rw[if_pos h20])
 obtain⟨E,hE⟩:∃ E,E=firstI [pmvErr p.moves,(if 524288 < bytesOf (itemsL p.comps) then 4 else 0)]:=⟨_,rfl⟩
 rw[<-hE]
 have HE:=Hy hE
 clear hg hp hs hE
 generalize pmvErr p.moves=EM at *
 generalize itemsL p.comps=I at *
 obtain⟨pn,⟨v1,v2,v3,va⟩,pt,pe,pb,pc,l⟩:=p
 dsimp only[pkV] at *
 generalize pe.length=l1 at *
 generalize pb.length=l2 at *
 generalize pc.length=l3 at *
 generalize hn:l.length=n at *
 have HN:=Hy hn
 clear hn
 have b0:=Blk.new w 76 #[.string pn,.int .i64 v1,.int .i64 v2,.int .i64 v3,.string va,.string pt,.slice A l1 c,.slice A2 l2 c2,.slice A3 l3 c3,.slice A4 n c4]
 have hx0:Ext w (w.alloc (.cells #[.string pn,.int .i64 v1,.int .i64 v2,.int .i64 v3,.string va,.string pt,.slice A l1 c,.slice A2 l2 c2,.slice A3 l3 c3,.slice A4 n c4] 76)):=(Ext.refl w).alloc _
 generalize hW0:w.alloc (.cells #[.string pn,.int .i64 v1,.int .i64 v2,.int .i64 v3,.string va,.string pt,.slice A l1 c,.slice A2 l2 c2,.slice A3 l3 c3,.slice A4 n c4] 76)=W0 at *
 have HW0:=Hy hW0
 have e0:=b0.cell;have l0:=b0.lt
 clear hW0
 by_cases h20:20 < n
 ·have HEE:=Hy (show E=4 from by rw[HE.out,H20.out h20];rfl)
  go_enter Tryz.func123,Tryz.ntmps123
  go_wp2
  go_ret
  exact⟨ret_int HEE.out.symm,by rw[HW0.out];exact hx0⟩
 have HAT:=Hy (HAT.out h20)
 have HZ:=Hy (HZ.out h20)
 go_enter Tryz.func123,Tryz.ntmps123
 go_wp2
 rw[HW0.out]
 go_loopw [17] (fun i wr=>∃ k:Nat,k<=n∧i=.int .i64 k∧Hid (∀ j,j < k->pmvAt l j=0)∧Ext W0 wr) (fun i _=>n - (intOf i).toNat)
 case atStart=>exact⟨0,Nat.zero_le _,rfl,fun j h=>absurd h (Nat.not_lt_zero _),Ext.refl _⟩
 case round =>
  obtain⟨k,hk,rfl,H0,hxr0⟩:=hrel
  obtain⟨wo,rfl⟩:∃ wo:World,wo=wr:=⟨_,rfl⟩
  have hxr:=hx0.trans hxr0
  have b2:=b0.ext hxr0
  clear e0
  have e2:=b2.cell;have l2':=b2.lt
  by_cases hlt:k < n
  ·have hk1:k < l.length:=by rw[HN.out];exact hlt
   obtain⟨b,o,rfl,hX⟩:=(HR.out.ext hxr) (fun e=>by rw[e] at hk1;exact absurd hk1 (Nat.not_lt_zero _))
   obtain⟨A5,c5,A6,c6,hrow⟩:=hX k hk1
   have LD:=load_Mw hrow
   have hin:=hrow.has
   have hsm:=HS.out _ (List.getElem_mem hk1)
   have HBAD:=Hy (HAT.out k hlt H0.out)
   have HNX:=Hy (show pmvAt l k=0->∀ j,j < k+1->pmvAt l j=0 from firstN_next H0.out)
   have HV:=Hy (show pmvAt l k=firstI [rngErr l[k].fr,l[k].tt.err,(if 100 < l[k].rules.length then 4 else 0),(if l[k].rules.any (fun x=>decide (x.size=0)||!valueL (bs x))=true then 2 else 0)] from by
    have e:l.getD k zeroM=l[k]:=by simp[List.getD,List.getElem?_eq_getElem hk1]
    unfold pmvAt
    rw[e,all_any]
    cases l[k].rules.any (fun x=>decide (x.size=0)||!valueL (bs x))<;>rfl)
   have CR:=Hy (fun W (h:Ext wo W)=>CheckRange_any A5 l[k].fr.length c5 l[k].fr W (HG.out.ext (hxr.trans h)) rfl (hin.1.ext h) hsm.fr hsm.len)
   have CV:=Hy (show ∀ W,Ext wo W->Calls Tryz.prog 17 #[.agg #[.int .i64 l[k].tt.a1,.int .i64 l[k].tt.a2,.int .i64 l[k].tt.a3,.string l[k].tt.a]] W fun e w'=>e=.returned (.int .i64 l[k].tt.err)∧Ext W w' from fun W h=>Check_any l[k].tt.a1 l[k].tt.a2 l[k].tt.a3 l[k].tt.a W (HG.out.ext (hxr.trans h)) hsm.tt)
   have CC:=Hy (fun W (h:Ext wo W)=>ContainsFuncX_any l[k].rules A6 l[k].rules.length c6 218 #[] (fun x=>decide (x.size=0)||!valueL (bs x)) W rfl (hin.2.ext h) hsm.num (fun _ _=>rfl) (fun x hx W' _=>movC_any x W' (hsm.rules x hx)))
   have hnum:=hsm.num
   clear hX hrow hin hsm
   generalize pmvAt l k=Z at *
   generalize l[k]=m at *
   obtain⟨mf,⟨t1,t2,t3,ta⟩,mr⟩:=m
   dsimp only[mvV] at *
   generalize mr.any (fun x=>decide (x.size=0)||!valueL (bs x))=AN at *
   generalize rngErr mf=R at *
   generalize V4.err ⟨t1,t2,t3,ta⟩=EV at *
   generalize mf.length=f5 at *
   generalize mr.length=r6 at *
   have b1:=Blk.new wo 195 #[.slice A5 f5 c5,.int .i64 t1,.int .i64 t2,.int .i64 t3,.string ta,.slice A6 r6 c6]
   have hxa:Ext wo (wo.alloc (.cells #[.slice A5 f5 c5,.int .i64 t1,.int .i64 t2,.int .i64 t3,.string ta,.slice A6 r6 c6] 195)):=(Ext.refl wo).alloc _
   generalize hW1:wo.alloc (.cells #[.slice A5 f5 c5,.int .i64 t1,.int .i64 t2,.int .i64 t3,.string ta,.slice A6 r6 c6] 195)=W1 at *
   have HW1:=Hy hW1
   clear hW1
   have e1:=b1.cell;have l1':=b1.lt
   go_wp2_with (refine wpList_load_at rfl _ _ rfl _ rfl _ LD ?_)
   rw[HW1.out]
   refine (CR.out _ hxa).mono ?_
   rintro e w2 ⟨rfl,hx2⟩
   clear LD
   have hx02:=hxa.trans hx2
   have b3:=b1.ext hx2
   clear e1
   have e3:=b3.cell;have l3':=b3.lt
   by_cases hR:R=0
   rotate_left
   ·have HEE:=Hy (show E=R from by rw[HE.out,HBAD.out (by rw[HV.out];simp[firstI,hR]),HV.out];simp[firstI,hR])
    have hne:(R != 0)=true:=by rw[bne_iff_ne];exact hR
    clear hR
    go_wp2
    go_ret
    exact⟨ret_int HEE.out.symm,hxr.trans hx02⟩
   subst hR
   go_wp2_with fail
   refine (CV.out _ hx02).mono ?_
   rintro e w4 ⟨rfl,hx4⟩
   have hx04:=hx02.trans hx4
   have b4:=b3.ext hx4
   clear e3
   have e4:=b4.cell;have l4':=b4.lt
   by_cases hR:EV=0
   rotate_left
   ·have HEE:=Hy (show E=EV from by rw[HE.out,HBAD.out (by rw[HV.out];simp[firstI,hR]),HV.out];simp[firstI,hR])
    have hne:(EV != 0)=true:=by rw[bne_iff_ne];exact hR
    clear hR
    go_wp2
    go_ret
    exact⟨ret_int HEE.out.symm,hxr.trans hx04⟩
   subst hR
   by_cases h100:100 < r6
   ·have HEE:=Hy (show E=4 from by rw[HE.out,HBAD.out (by rw[HV.out];simp[firstI,h100]),HV.out];simp[firstI,h100])
    go_wp2
    go_ret
    exact⟨ret_int HEE.out.symm,hxr.trans hx04⟩
   go_wp2_with fail
   refine (CC.out _ hx04).mono ?_
   rintro e w5 ⟨rfl,hx5⟩
   have hx05:=hx04.trans hx5
   cases AN
   rotate_left
   ·have HEE:=Hy (show E=2 from by rw[HE.out,HBAD.out (by rw[HV.out];simp[firstI,h100]),HV.out];simp[firstI,h100])
    go_wp2
    go_ret
    exact⟨ret_int HEE.out.symm,hxr.trans hx05⟩
   have HO:=Hy (HNX.out (by rw[HV.out];simp[firstI,h100]))
   go_wp2
   go_roundw
   case rel=>exact⟨k+1,by omega,by go_num,HO.out,hxr0.trans hx05⟩
   case measure=>simp[intOf];omega
  ·obtain rfl:k=n:=by omega
   have HM:=Hy (HZ.out H0.out)
   go_wp2_with fail
   refine (CI.out _ hxr).mono ?_
   rintro e w5 ⟨A',c',rfl,hc',hrd,hx5⟩
   clear e2
   have hx05:=hxr.trans hx5
   have HRD:=Hy hrd
   have HBL:=Hy (bytes_le I)
   have HBT:=Hy (bytes_take I)
   have HFIN:=Hy (show bytesOf (I.take I.length)=bytesOf I from by rw[List.take_length])
   have HIN:=Hy (show ∀ q,q=I.length->I.length=q from fun q h=>h.symm)
   obtain⟨q,hq⟩:∃ q,q=I.length:=⟨_,rfl⟩
   rw[<-hq] at hc' hal HFIN ⊢
   have HQ:=Hy hq
   clear hq hrd
   go_wp2
   go_loopw [7,44] (fun s i wr=>∃ j:Nat,j<=q∧i=.int .i64 j∧s=.int .i64 (bytesOf (I.take j))∧Ext w5 wr) (fun s i _=>q - (intOf i).toNat)
   case atStart=>exact⟨0,Nat.zero_le _,rfl,rfl,Ext.refl _⟩
   case round =>
    obtain⟨j,hj,rfl,rfl,hxs⟩:=hrel
    obtain⟨wo,rfl⟩:∃ wo:World,wo=wr:=⟨_,rfl⟩
    by_cases hlt:j < q
    ·have hk1:j < I.length:=by rw[<-HQ.out];exact hlt
     obtain⟨b,o,rfl,hX⟩:=(HRD.out.ext hxs) (fun e=>by rw[e] at hk1;exact absurd hk1 (Nat.not_lt_zero _))
     have LD:=load_It (hX j hk1)
     have hbt:=HBT.out j hk1
     have hble:=HBL.out (j+1)
     clear hX
     generalize hS2:bytesOf (I.take (j+1))=S2 at *
     generalize bytesOf (I.take j)=S1 at *
     generalize I[j]=y at *
     obtain⟨xk,xp,xd,xr,xe,xv,xs,xq,xa,xo⟩:=y
     dsimp only[itmV] at *
     have hb:S1+xd.size<=2097152:=by omega
     have HS2:=Hy (show bytesOf (I.take (j+1))=S1+xd.size from by rw[hS2,hbt])
     clear hbt hble hS2
     have hxa:Ext wo (wo.alloc (.cells #[.int .i64 xk,.string xp,.string xd,.bool xr,.string xe,.string xv,.string xs,.string xq,.bool xa,.bool xo] 104)):=(Ext.refl wo).alloc _
     go_wp2_with (refine wpList_load_at rfl _ _ rfl _ rfl _ LD ?_)
     go_roundw
     case rel=>exact⟨j+1,by omega,by go_num,by rw[HS2.out];go_num,hxs.trans hxa⟩
     case measure=>simp[intOf];omega
    ·obtain rfl:j=q:=by omega
     rw[HFIN.out]
     generalize bytesOf I=S at *
     by_cases hS:524288 < S
     ·have HEE:=Hy (show E=4 from by rw[HE.out,HM.out];simp[firstI,hS])
      go_wp2
      go_ret
      exact⟨ret_int HEE.out.symm,hx05.trans hxs⟩
     ·have HEE:=Hy (show E=0 from by rw[HE.out,HM.out];simp[firstI,hS])
      go_wp2
      go_ret
      exact⟨ret_int HEE.out.symm,hx05.trans hxs⟩
end
section
open Go.RowKit
set_option maxHeartbeats 4000000 in
set_option maxRecDepth 100000 in
theorem webC_any (p:Pkg) (A:Option Addr) (c:Nat) (A2:Option Addr) (c2:Nat) (A3:Option Addr) (c3:Nat) (A4:Option Addr) (c4:Nat) (g:Nat) (nm:ByteArray) (w:World) (hl:p.comps.length<=2097152) (hr:RdC w A3 p.comps)
 (hb:Blk w g 76 #[.string p.name,.int .i64 p.vv.a1,.int .i64 p.vv.a2,.int .i64 p.vv.a3,.string p.vv.a,.string p.title,.slice A p.needs.length c,.slice A2 p.bars.length c2,.slice A3 p.comps.length c3,.slice A4 p.moves.length c4]) :
 Calls Tryz.prog 209 (#[.string nm]++#[.pointer (some ⟨g,0,none⟩)]) w fun e w'=>e=.returned (.bool (!isComp p.comps nm))∧Ext w w':=by
 have CA:=Hy (fun W (h:Ext w W)=>at_any #[.string p.name,.int .i64 p.vv.a1,.int .i64 p.vv.a2,.int .i64 p.vv.a3,.string p.vv.a,.string p.title,.slice A p.needs.length c,.slice A2 p.bars.length c2,.slice A3 p.comps.length c3,.slice A4 p.moves.length c4] p.comps A3 p.comps.length c3 nm W rfl rfl rfl (hr.ext h) hl)
 have HN:=Hy (cmpAt_neg p.comps nm)
 clear hr
 generalize cmpAt p.comps nm=Z at *
 generalize isComp p.comps nm=r at *
 obtain⟨pn,⟨v1,v2,v3,va⟩,pt,pe,pb,l,pm⟩:=p
 dsimp only at *
 generalize pe.length=l1 at *
 generalize pb.length=l2 at *
 generalize l.length=l3 at *
 generalize pm.length=l4 at *
 have e0:=hb.cell;have l0:=hb.lt
 go_enter Tryz.func209,Tryz.ntmps209
 go_wp2_with fail
 refine (CA.out _ (Ext.refl _)).mono ?_
 rintro e w1 ⟨rfl,hx1⟩
 go_wp2
 go_ret
 exact⟨ret_bool (by rw[<-HN.out]),hx1⟩
end
section
open Go.RowKit
set_option maxHeartbeats 2000000 in
set_option maxRecDepth 100000 in
theorem CloneX_any (l:List ByteArray) (A:Option Addr) (n c:Nat) (w:World) (hn:l.length=n) (hr:RdX w A l) (hl:n<=2097152) :
 Calls Tryz.prog 201 #[.slice A n c] w fun e w'=>∃ v,e=.returned v∧w'.ownsRow w.heap.size 9 1 v n (l.map Value.string)∧Ext w w':=by
 obtain⟨i,hi,hz0,hz1,hz2⟩:=info_parts info_string
 cases A with
 | none =>
   have q0:∀ w,Sem.run Tryz.prog (binOp BinOp.eql 77 (.slice none n c) (.slice none 0 0)) w=.ok (.bool true) w:=fun _=>by kernel_rfl
   have h0:l=[]:=by
    by_cases e:l=[]
    ·exact e
    ·obtain⟨_,_,h,_⟩:=hr e
     exact absurd h (by simp)
   subst h0
   obtain rfl:n=0:=hn.symm
   go_enter Tryz.func201,Tryz.ntmps201
   go_wp2
   go_ret
   exact⟨_,rfl,World.ownsRow_nil _ _ _ _,Ext.refl _⟩
 | some ad =>
   have q0:∀ w,Sem.run Tryz.prog (binOp BinOp.eql 77 (.slice (some ad) n c) (.slice none 0 0)) w=.ok (.bool false) w:=fun _=>by kernel_rfl
   have hown:=World.ownsRow_lit (base:=w.heap.size) (e:=9) (size:=1) w #[] 0 (Nat.le_refl _) (Nat.zero_le _) rfl
   have hxa:Ext w (w.alloc (.cells #[] 9)):=(Ext.refl w).alloc _
   have hcells:∀ j u,(l.map Value.string)[j]?=some u->(w.alloc (.cells #[] 9)).cell? (ad.add j)=some u:=fun j u hu=>by
    obtain⟨hj,e⟩:=List.getElem?_eq_some_iff.1 hu
    have hj:j < l.length:=by simpa using hj
    obtain⟨b,o,h,hX⟩:=hr (fun e=>by rw[e] at hj;exact absurd hj (Nat.not_lt_zero _))
    injection h with h
    subst h
    rw[addr_at,<-e,hxa.cell (hX j hj)]
    simp
   go_enter Tryz.func201,Tryz.ntmps201
   go_wp2_with (at_builtin;refine wpList_append_own _ rfl _ _ 77 rfl w.heap.size 9 i (.string ⟨#[]⟩) 1 16 Tryz.underlying77 hi hz0 hz1 hz2 rfl (by decide) _ 0 [] rfl hown ad n c (l.map Value.string) rfl (by rw[List.length_map,hn,Nat.mul_one]) hcells (fun u hu=>by obtain⟨_,_,rfl⟩:=List.mem_map.1 hu;rfl) (by simp only[maxLen];omega) (by omega) hxa.size ?_;intro v' w' hown' hg _)
   go_ret
   refine⟨v',rfl,by simpa using hown',hxa.grown hown ?_ hg⟩
   exact Nat.le_refl _
end
section
open Go.RowKit
theorem QRow.of_own {w:World} {B size n:Nat} {e:TypeId} {v:Value} {xs:List Value} (h:w.ownsRow B e size v n xs):v=.slice none 0 0∧n=0∨QRow w B size v n xs:=by
 rcases h.2 with ⟨rfl,rfl⟩|⟨g,cap,cur,rfl,hb,hg,hnc,hcm,hcs,htake⟩
 ·exact .inl ⟨rfl,rfl⟩
 ·have hlt:g < w.heap.size:=by
   rcases Nat.lt_or_ge g w.heap.size with h|h
   ·exact h
   ·rw[Array.getElem?_eq_none h] at hg;cases hg
  have b:Blk w g e cur:=hg
  refine .inr ⟨h.1,g,0,cap,rfl,hb,hlt,hnc,hcm,fun j hj=>?_,fun j u hu=>?_⟩
  ·rw[Nat.zero_add,b.cell,b.free]
   exact⟨by rw[Array.getElem?_eq_getElem (by omega)];rfl,rfl⟩
  ·rw[Nat.zero_add,b.cell]
   rw[<-htake,List.getElem?_take] at hu
   split at hu
   ·rw[<-Array.getElem?_toList];exact hu
   ·cases hu
end
section
open Go.RowKit
def QX (w:World) (B:Nat) (v:Value) (L:List ByteArray):Prop:=(v=.slice none 0 0∧L=[])∨QRow w B 1 v L.length (L.map Value.string)
namespace QX
variable {w w':World} {B:Nat} {v:Value} {L:List ByteArray} {x:ByteArray}
theorem form (h:QX w B v L):∃ A c,v=.slice A L.length c∧L.length<=c:=by
 rcases h with ⟨rfl,rfl⟩|⟨_,g,off,cap,rfl,_,_,h,_⟩
 ·exact⟨none,0,rfl,Nat.le_refl _⟩
 ·exact⟨_,cap,rfl,h⟩
theorem ext (h:QX w B v L) (hx:Ext w w'):QX w' B v L:=by
 rcases h with h|h
 ·exact .inl h
 ·exact .inr (h.ext hx)
theorem of_own {e:TypeId} {n:Nat} (h:w.ownsRow B e 1 v n (L.map Value.string)) (hn:L.length=n):QX w B v L:=by
 rcases QRow.of_own h with ⟨rfl,rfl⟩|h
 ·exact .inl ⟨rfl,List.eq_nil_of_length_eq_zero hn⟩
 ·exact .inr (hn ▸ h)
theorem pop (h:QX w B v (x::L)):∃ g off cap,v=.slice (some ⟨g,off,none⟩) (L.length+1) cap∧B<=g∧w.cell? ⟨g,off,none⟩=some (.string x)∧L.length+1<=cap∧cap<=maxLen ∧
 QRow w B 1 (.slice (some ⟨g,off+1,none⟩) L.length (cap - 1)) L.length (L.map Value.string)∧(cap=1->QRow w B 1 (.slice (some ⟨g,off,none⟩) 0 0) 0 (L.map Value.string)):=by
 rcases h with ⟨_,h⟩|h
 ·cases h
 ·rw[List.length_cons] at h
  obtain⟨g,off,cap,rfl,h1,h2,h3,h4⟩:=h.tail
  obtain⟨_,g',off',cap',e,hB,_,_,_,_,hc⟩:=h
  injection e with e1 e2 e3
  injection e1 with e1
  injection e1 with e1 e4
  subst e1;subst e4;subst e3
  refine⟨g,off,cap,rfl,hB,?_,h1,h2,by simpa using h3,by simpa using h4⟩
  have:=hc 0 (.string x) rfl
  rwa [Nat.add_zero] at this
end QX
section
variable {P:Program} (w:World)
theorem run_append_zero (t ty e:TypeId) (i:TypeInfo) (ht:P.underlying t=some (.slice e)) (hi:P.info? e=some i) (p q:Option Addr) (n cap c:Nat) (h:n<=cap) :
 (Builtin.append_ #[t,t] ty #[.slice p n cap,.slice q 0 c]).run P w=.ok (.slice p n cap) w:=by
 cases p<;>cases q<;>simp[Builtin.append_,run_underlying ht,sizeOf,typeInfo,hi,Builtin.lenOf,Builtin.firstCells,loadCells,loadCellsFrom,h,storeCells]
end
theorem QRow.slice {w:World} {B size n:Nat} {v:Value} {xs:List Value} (h:QRow w B size v n xs):∃ g off cap,v=.slice (some ⟨g,off,none⟩) n cap∧B<=g∧n<=cap:=by
 obtain⟨_,g,off,cap,rfl,h1,_,h2,_⟩:=h
 exact⟨g,off,cap,rfl,h1,h2⟩
set_option maxRecDepth 20000 in
theorem wpList_appQX {ops:Array Oper} {rest:List Oper} {o:Oper} {a:Act} {Q:Exit->Act->World->Prop} (w:World) (hgd:o.guard=none) (s x:Operand)
 (ho:o.op=.call { callee:=.builtin .append,args:=#[s,x],argTypes:=#[77,77] })
 (B:Nat) (v:Value) (n:Nat) (L:List ByteArray) (hs:a.eval s=v) (hq:QRow w B 1 v n (L.map Value.string)) (A:Option Addr) (m c:Nat) (l:List ByteArray) (hx:a.eval x=.slice A m c) (hl:l.length=m) (hr:RdX w A l) (hn:n+m<=100000000) (hbase:B<=w.heap.size)
 (h:∀ v' w',QRow w' B 1 v' (n+m) ((L++l).map Value.string)->(∀ a',Ext a' w->a'.heap.size<=B->Ext a' w')->(∀ b t cs,b < B->Blk w b t cs->Blk w' b t cs)->wpList Tryz.prog ops Q rest (a.put o.dst v') w') :
 wpList Tryz.prog ops Q (o::rest) a w:=by
 obtain⟨i,hi,hz0,hz1,hz2⟩:=info_parts info_string
 rw[List.map_append] at h
 obtain⟨g,off,cap,rfl,hB,hc⟩:=hq.slice
 have key:∃ v' w',(Builtin.append_ #[77,77] o.type #[.slice (some ⟨g,off,none⟩) n cap,.slice A m c]).run Tryz.prog w=.ok v' w'∧QRow w' B 1 v' (n+m) (L.map Value.string++l.map Value.string)∧(∀ a',Ext a' w->a'.heap.size<=B->Ext a' w')∧(∀ b t cs,b < B->Blk w b t cs->Blk w' b t cs):=by
  rcases Nat.eq_zero_or_pos m with h0|h0
  ·subst h0
   obtain rfl:l=[]:=List.eq_nil_of_length_eq_zero hl
   exact⟨_,w,run_append_zero w _ _ _ i Tryz.underlying77 hi _ A n cap c hc,by simpa using hq,fun _ h _=>h,fun _ _ _ _ h=>h⟩
  ·have hne:l≠[]:=fun e=>by rw[e] at hl;simp at hl;omega
   obtain⟨b,o',rfl,hX⟩:=hr hne
   obtain⟨v',w',h1,h2,h3,h4⟩:=run_append_qm (P:=Tryz.prog) (w:=w) 77 o.type 9 i (.string ⟨#[]⟩) 1 16 Tryz.underlying77 hi hz0 hz1 hz2 rfl (by decide) (by decide) hq ⟨b,o',none⟩ m c (l.map Value.string) h0 (by rw[List.length_map,hl,Nat.mul_one]) (fun j u hu=>by
    obtain⟨hj,e⟩:=List.getElem?_eq_some_iff.1 hu
    have hj:j < l.length:=by simpa using hj
    rw[addr_at,<-e,hX j hj]
    simp) (fun u hu=>by obtain⟨_,_,rfl⟩:=List.mem_map.1 hu;rfl) hn hbase
   exact⟨v',w',h1,h2,fun a' ha hb=>Below.grown ha h3 ha.size (fun k hk=>by simp only[Value.ownBlock,Option.some.injEq] at hk;omega),fun b t cs hb hh=>hh.turned h3 (fun e=>by simp only[Value.ownBlock,Option.some.injEq] at e;omega)⟩
 obtain⟨v',w',hr',h1,h2,h3⟩:=key
 have hh:=h v' w' h1 h2 h3
 refine wpList_plain hgd fun _ hK=>?_
 unfold Oper.wp execOp
 simp only[ho,resolve,invoke,builtin,Sem.run_bind,Sem.run_pure,Result.andThen_ok,List.map_toArray,List.map_cons,List.map_nil,hs,hx,hr']
 exact hK _ _ hh
def boolsA (n:Nat) (V:Nat->Bool):Array Value:=((List.range n).map fun i=>Value.bool (V i)).toArray
theorem boolsA_get {n:Nat} {V:Nat->Bool} {k:Nat} (h:k < n):(boolsA n V)[k]?=some (.bool (V k)):=by
 unfold boolsA
 simp[h]
theorem boolsA_set (n:Nat) (V:Nat->Bool) (k:Nat) (b:Bool):(boolsA n V).setIfInBounds k (.bool b)=boolsA n (fun i=>if i=k then b else V i):=by
 unfold boolsA
 apply Array.ext
 ·simp
 ·intro i h1 h2
  by_cases e:i=k
  ·subst e;simp
  ·have e2:¬ k=i:=fun h=>e h.symm
   simp[e,e2]
theorem boolsA_zero (n:Nat):madeCells #[Value.bool false] (n * 1)=boolsA n fun _=>false:=by
 apply Array.ext
 ·simp[boolsA,size_madeCells]
 ·intro i h1 h2
  simp[boolsA,madeCells,Nat.mod_one]
theorem info_bool:(Tryz.prog.info? 4).map (fun i=>(i.zero,i.size,i.bytes))=some (some (.bool false),1,1):=by kernel_rfl
theorem make_bools (n:Nat) (hn:n<=2097152) (w:World):(Instr.makeSlice 202 (.int .i64 (n:Int)) (.int .i64 (n:Int))).run Tryz.prog w=.ok (.slice (some ⟨w.heap.size,0,none⟩) n n) (w.alloc (.cells (boolsA n fun _=>false) 4)):=by
 obtain⟨i,hi,hz0,hz1,hz2⟩:=info_parts info_bool
 have h:=run_make (P:=Tryz.prog) w 202 4 i (.bool false) Tryz.underlying202 hi hz0 .i64 .i64 (n:Int) (n:Int) (by omega) (Int.le_refl _) (by rw[hz2];omega) (by omega)
 rw[h,hz1,Int.toNat_natCast,show (Value.bool false).cells=#[.bool false] from rfl,boolsA_zero]
end
section
open Go.RowKit
structure RowX (w:World) (g:Nat) (M:List ByteArray):Prop where
 c:∀ k (h:k < M.length),w.cell? ⟨g,k,none⟩=some (.string M[k])
 f:∀ t,t < M.length->w.frozen? ⟨g,t,none⟩=false
namespace RowX
variable {w w':World} {g:Nat} {M:List ByteArray}
theorem lt (h:RowX w g M) (h0:0 < M.length):g < w.heap.size:=lt_of_cell (h.c 0 h0)
theorem ext (h:RowX w g M) (hx:Ext w w'):RowX w' g M:=by
 refine⟨fun k hk=>hx.cell (h.c k hk),fun t ht=>?_⟩
 rw[hx.cells.2 g t (h.lt (by omega))]
 exact h.f t ht
theorem set (h:RowX w g M) {k:Nat} (hk:k < M.length) (x:ByteArray):RowX (w.setCell ⟨g,k,none⟩ (.string x)) g (M.set k x):=by
 refine⟨fun j hj=>?_,fun t ht=>?_⟩
 ·rw[List.length_set] at hj
  by_cases e:j=k
  ·subst e
   rw[List.getElem_set_self]
   exact World.cell?_setCell_same _ _ _ (h.c j hk)
  ·rw[List.getElem_set_ne (fun h=>e h.symm),World.cell?_setCell_other _ _ _ _ (fun h=>e (by injection h with _ h2;exact h2.symm))]
   exact h.c j hj
 ·rw[List.length_set] at ht
  rw[World.frozen?_setCell]
  exact h.f t ht
theorem setCells_extC {C:Nat->Prop} {a:World} {g:Nat} (hC:C g):∀ (vs:List Value) (o:Nat) (w:World),ExtC C a w->ExtC C a (w.setCells g o vs)
 | [],_,_,h=>h
 | v::r,o,w,h=>by
   rw[World.setCells]
   exact setCells_extC hC r (o+1) _ (h.set (p:=⟨g,o,none⟩) (.inl hC) v)
theorem clear (h:RowX w g M) {n kk c:Nat} (hn:M.length=n) (hk:kk < n) :
 ∃ w',(∀ ty,(Builtin.clear_ #[77] ty #[.slice (some ⟨g,kk,none⟩) (n - kk) c]).run Tryz.prog w=.ok (.tuple #[]) w')∧RowX w' g (M.take kk)∧ExtC (·=g) w w':=by
 subst hn
 refine⟨_,fun ty=>Lib.run_clear_slice w _ _ ty (.string ⟨#[]⟩) Tryz.underlying77 Tryz.zeroValue9 rfl rfl g kk (M.length - kk) c (by omega) (fun j hj=>by rw[h.c (kk+j) (by omega)];rfl) (fun j hj=>h.f _ (by omega)),⟨fun j hj=>?_,fun t ht=>?_⟩,setCells_extC (C:=(·=g)) rfl _ _ _ (ExtC.refl _ _)⟩
 ·rw[List.length_take] at hj
  rw[World.cell?_setCells_out _ _ _ _ _ (fun _ _=>.inl (by show j < kk;omega)),List.getElem_take]
  exact h.c j (by omega)
 ·rw[List.length_take] at ht
  rw[World.frozen?_setCells]
  exact h.f t (by omega)
end RowX
structure DelInv (D:List ByteArray) (p:ByteArray->Bool) (i kk:Nat) (M:List ByteArray):Prop where
 len:M.length=D.length
 done:M.take kk=(D.take i).filter fun x=>!p x
 num:((D.take i).filter fun x=>!p x).length=kk
 lt:kk < i
 high:∀ j (h1:j < M.length) (h2:j < D.length),i<=j->M[j]=D[j]
namespace DelInv
variable {D M:List ByteArray} {p:ByteArray->Bool} {i kk:Nat}
theorem filter_id (h:∀ j (hj:j < D.length),p D[j]=false):D.filter (fun x=>!p x)=D:=by
 rw[List.filter_eq_self]
 intro x hx
 obtain⟨j,hj,rfl⟩:=List.mem_iff_getElem.1 hx
 rw[h j hj];rfl
theorem start {k:Nat} (hk:k < D.length) (hp:p D[k]=true) (h0:∀ j (hj:j < D.length),j < k->p D[j]=false):DelInv D p (k+1) k D:=by
 have e:(D.take (k+1)).filter (fun x=>!p x)=D.take k:=by
  rw[List.take_succ_eq_append_getElem hk,List.filter_append,filter_id (D:=D.take k) (fun j hj=>by
   rw[List.length_take] at hj
   rw[List.getElem_take]
   exact h0 j (by omega) (by omega))]
  simp[hp]
 exact⟨rfl,e.symm,by rw[e,List.length_take];omega,by omega,fun _ _ _ _=>rfl⟩
theorem skip (h:DelInv D p i kk M) (hi:i < D.length) (e:p D[i]=true):DelInv D p (i+1) kk M:=by
 have h1:(D.take (i+1)).filter (fun x=>!p x)=(D.take i).filter fun x=>!p x:=by
  rw[List.take_succ_eq_append_getElem hi,List.filter_append]
  simp[e]
 exact⟨h.len,by rw[h1];exact h.done,by rw[h1];exact h.num,by have:=h.lt;omega,fun j a b c=>h.high j a b (by omega)⟩
theorem keep (h:DelInv D p i kk M) (hi:i < D.length) (e:p D[i]=false):DelInv D p (i+1) (kk+1) (M.set kk D[i]):=by
 have h1:(D.take (i+1)).filter (fun x=>!p x)=((D.take i).filter fun x=>!p x)++[D[i]]:=by
  rw[List.take_succ_eq_append_getElem hi,List.filter_append]
  simp[e]
 have hlt:=h.lt
 have hl:=h.len
 refine⟨by rw[List.length_set];exact hl,?_,by rw[h1,List.length_append,h.num];rfl,by omega,fun j g1 g2 g3=>?_⟩
 ·rw[h1,<-h.done,List.take_succ_eq_append_getElem (by rw[List.length_set];omega),List.getElem_set_self,List.take_set_of_le (Nat.le_refl _)]
 ·rw[List.getElem_set_ne (by omega)]
  exact h.high j (by rw[List.length_set] at g1;exact g1) g2 (by omega)
end DelInv
end
end Go.Proofs.YtmpccllnpcbgcaaGreatDoor
