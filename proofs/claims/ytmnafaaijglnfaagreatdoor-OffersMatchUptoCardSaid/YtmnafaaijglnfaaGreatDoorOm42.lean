/- Contract of feed.Fits; the plain words for the offer that is had. (Printed by gen/omf.py.) Plain: names in order, what a version that is put does, and the offers one after the other. An offer stored over its block, in one step; an offer read out of its block as a result. slices.BinarySearchFunc over what is installed, by a name. -/
import Derived.Test.YtmnafaaijglnfaaGreatDoorOm41
namespace Go.Proofs.YtmnafaaijglnfaaGreatDoor
section
open Go.RowKit
theorem mat_zero {m:Mac} {t:Int} (h:matErr m t=0):macErr m=0∧0<=t∧t<=1099511627776:=by
 have hh:=firstI_allO h
 have h1:=hh (macErr m) (by simp);have h2:=hh (timeErr t) (by simp)
 refine⟨h1,?_⟩
 unfold timeErr at h2
 cases hq:inI t 0 1099511627776 with
 | true=>exact inI_iffS.1 hq
 | false=>rw[hq] at h2;cases h2
def holdM (o:Of) (m:Mac):Bool:=holdsC (tbl m.facts) (tbl m.sets) o.wh
def fitM (o:Of) (m:Mac) (t:Int):Int:=fitL o (wasL m.inst o.name.toList) m (holdM o m) t
def fitE (o:Of) (m:Mac) (t:Int):Int:=firstI [ofErr o,matErr m t]
def fitR (o:Of) (m:Mac) (t:Int):Int:=if fitE o m t=0 then fitM o m t else 0
set_option maxHeartbeats 8000000 in
set_option maxRecDepth 100000 in
theorem Fits_any (o:Of) (A:Option Addr) (c:Nat) (k:Int) (n x:ByteArray) (A2:Option Addr) (m c2:Nat) (mc:Mac) (A':Option Addr) (n' c':Nat) (Af:Option Addr) (nf cf:Nat) (As:Option Addr) (ns cs:Nat) (Ap:Option Addr) (np cp:Nat) (t:Int) (w:World) (hg:GoodN w) (hi:OfIn AnyB w o A k n x A2 m c2) (ho:SmallO o) (hm:MacIn w mc A' n' Af nf As ns Ap np cp) (hs:SmallM mc) :
 Calls Tryz.prog 62 #[ofV o A c k n x A2 m c2,macV mc A' n' c' Af nf cf As ns cs Ap np cp,.int .i64 t] w fun e w'=>e=.returned (.tuple #[.int .i64 (fitR o mc t),.int .i64 (fitE o mc t)])∧Ext w w':=by
 have C1:=Hy (fun W (h:Ext w W)=>offerFault_any o A c k n x A2 m c2 W (hg.ext h) (hi.ext h) ho)
 have C2:=Hy (fun W (h:Ext w W)=>machineFault_any mc A' n' c' Af nf cf As ns cs Ap np cp t W (hg.ext h) (hm.ext h) hs)
 have C3:=Hy (fun (h1:ofErr o=0) (h2:matErr mc t=0) W (h:Ext w W)=>show Calls Tryz.prog 132 #[ofV o A c k n x A2 m c2,macV mc A' n' c' Af nf cf As ns cs Ap np cp,.int .i64 t] W fun e w'=>e=.returned (.int .i64 (fitM o mc t))∧Ext W w' from
  fits_any o A c k n x A2 m c2 mc A' n' c' Af nf cf As ns cs Ap np cp t W (hg.ext h) (hi.ext h) ho h1 (hm.ext h) hs (MacOk.of (mat_zero h2).1) (mat_zero h2).2)
 have H1:=Hy (show ¬ ofErr o=0->fitE o mc t=ofErr o∧fitR o mc t=0 from fun h=>by
  have e:fitE o mc t=ofErr o:=by simp[fitE,firstI,h]
  exact⟨e,by unfold fitR;rw[e,if_neg h]⟩)
 have H2:=Hy (show ofErr o=0->¬ matErr mc t=0->fitE o mc t=matErr mc t∧fitR o mc t=0 from fun h h2=>by
  have e:fitE o mc t=matErr mc t:=by simp[fitE,firstI,h,h2]
  exact⟨e,by unfold fitR;rw[e,if_neg h2]⟩)
 have H3:=Hy (show ofErr o=0->matErr mc t=0->fitE o mc t=0∧fitR o mc t=fitM o mc t from fun h h2=>by
  have e:fitE o mc t=0:=by simp[fitE,firstI,h,h2]
  exact⟨e,by unfold fitR;rw[if_pos e]⟩)
 clear hg hi ho hm hs
 generalize fitE o mc t=FE at *
 generalize fitR o mc t=FR at *
 generalize fitM o mc t=FM at *
 generalize ofErr o=E1 at *
 generalize matErr mc t=E2 at *
 obtain⟨mn,mi,mf,ms,mp⟩:=mc
 obtain⟨on,⟨o1,o2,o3,oa⟩,os,of_,ow,od,ob,ot,og,oh,ou,ok⟩:=o
 dsimp only[ofV] at *
 generalize of_.length=ol at *
 dsimp only[macV] at *
 go_enter Tryz.func62,Tryz.ntmps62
 go_upto_region 0 with fail
 go_cut [3,4] (fun s3 s4 wx=>s3=.pointer (some ⟨w.heap.size,0,none⟩)∧s4=.pointer (some ⟨w.heap.size+1,0,none⟩)∧Hid (Blk wx w.heap.size 66 #[.string on,.int .i64 o1,.int .i64 o2,.int .i64 o3,.string oa,.string os,.slice A ol c,.bool ow,.int .i64 k,.string n,.string x,.slice A2 m c2,.int .i64 ob,.int .i64 ot,.int .i64 og,.bool oh,.bool ou,.bool ok])∧Hid (Blk wx (w.heap.size+1) 96 #[.string mn,.slice A' n' c',.slice Af nf cf,.slice As ns cs,.slice Ap np cp])∧Ext w wx)
 case first=>as_aux_lemma =>
  go_wp2_with fail
  go_meet
  case rel=>exact⟨rfl,by simp,Hy ((Blk.new w _ _).alloc _),Hy (by have:=Blk.new (w.alloc (.cells #[.string on,.int .i64 o1,.int .i64 o2,.int .i64 o3,.string oa,.string os,.slice A ol c,.bool ow,.int .i64 k,.string n,.string x,.slice A2 m c2,.int .i64 ob,.int .i64 ot,.int .i64 og,.bool oh,.bool ou,.bool ok] 66)) 96 #[.string mn,.slice A' n' c',.slice Af nf cf,.slice As ns cs,.slice Ap np cp];rwa [World.size_alloc] at this),((Ext.refl _).alloc _).alloc _⟩
 case rest =>
 obtain⟨rfl,rfl,HBO,HBM,hx1⟩:=hcut
 obtain⟨w1,rfl⟩:∃ w1:World,w1=wc:=⟨_,rfl⟩
 have LO:=load_blk HBO.out rfl
 have lO:=HBO.out.lt
 go_wp2_with (refine wpList_load_at rfl _ _ rfl _ rfl _ LO ?_)
 refine (C1.out _ hx1).mono ?_
 rintro e w2 ⟨rfl,hx2⟩
 have hxw2:=hx1.trans hx2
 have hM:=HBM.out.ext hx2;have hO:=HBO.out.ext hx2
 clear LO lO
 by_cases h1:E1=0
 rotate_left
 ·have HQ:=Hy (H1.out h1)
  have hne:(E1 != 0)=true:=by rw[bne_iff_ne];exact h1
  clear h1
  go_wp2
  go_ret2
  exact⟨by rw[HQ.out.1,HQ.out.2];simp,hxw2⟩
 subst h1
 have e1:=hM.cell;have l1:=hM.lt
 go_wp2_with fail
 refine (C2.out _ hxw2).mono ?_
 rintro e w3 ⟨rfl,hx3⟩
 have hxw3:=hxw2.trans hx3
 have hM3:=hM.ext hx3;have hO3:=hO.ext hx3
 clear e1 l1
 by_cases h2:E2=0
 rotate_left
 ·have HQ:=Hy (H2.out (by trivial) h2)
  have hne:(E2 != 0)=true:=by rw[bne_iff_ne];exact h2
  clear h2
  go_wp2
  go_ret2
  exact⟨by rw[HQ.out.1,HQ.out.2];simp,hxw3⟩
 subst h2
 have HQ:=Hy (H3.out (by trivial) (by trivial))
 have CF:=Hy (C3.out (by trivial) (by trivial) w3 hxw3)
 have e1:=hM3.cell;have l1:=hM3.lt
 have LO:=load_blk hO3 rfl
 have lO:=hO3.lt
 go_wp2_with (refine wpList_load_at rfl _ _ rfl _ rfl _ LO ?_)
 refine CF.out.mono ?_
 rintro e w4 ⟨rfl,hx4⟩
 go_wp2
 go_ret2
 exact⟨by rw[HQ.out.1,HQ.out.2];simp,hxw3.trans hx4⟩
def urgL (l:List Of) (i:Int):Bool:=(l.getD i.toNat zeroO).urg
def offN (l:List Of) (F:Of->Int) (nm:List UInt8) (i:Nat) (s:Int × Int):Int × Int :=
 if (l.getD i zeroO).name.toList=nm then (if F (l.getD i zeroO)=0∧(s.1 < 0∨(l.getD i zeroO).urg=true∨urgL l s.1=false) then ((i:Int),F (l.getD i zeroO)) else (s.1,F (l.getD i zeroO))) else s
def offS (l:List Of) (F:Of->Int) (nm:List UInt8):Nat->Int × Int
 | 0=>(-1,8)
 | k+1=>offN l F nm k (offS l F nm k)
def offR (l:List Of) (F:Of->Int) (nm:List UInt8):Int × Int:=if 0<=(offS l F nm l.length).1 then ((offS l F nm l.length).1,0) else (-1,(offS l F nm l.length).2)
theorem offS_lt (l:List Of) (F:Of->Int) (nm:List UInt8):∀ k,-1<=(offS l F nm k).1∧(offS l F nm k).1 < k
 | 0=>⟨by show (-1:Int)<=-1;omega,by show (-1:Int) < ((0:Nat):Int);omega⟩
 | k+1=>by
   have ih:=offS_lt l F nm k
   unfold offS offN
   split
   ·split
    ·exact⟨by show (-1:Int)<=(k:Int);omega,by show (k:Int) < ((k+1:Nat):Int);omega⟩
    ·exact⟨ih.1,by show (offS l F nm k).1 < ((k+1:Nat):Int);omega⟩
   ·exact⟨ih.1,by omega⟩
end
section
open Go.RowKit
def nms (l:List Ins):List Str:=l.map fun x=>bs x.name
def AscI (l:List Ins):Prop:=(nms l).Pairwise (· < ·)
theorem nms_len (l:List Ins):(nms l).length=l.length:=by simp[nms]
theorem nms_at {l:List Ins} {i:Nat} (h:i < l.length):(nms l)[i]'(by rw[nms_len];exact h)=bs l[i].name:=by simp[nms]
theorem AscI.lt {l:List Ins} (h:AscI l) {i j:Nat} (hj:j < l.length) (hi:i < j):bs (l[i]'(Nat.lt_trans hi hj)).name < bs l[j].name:=by
 have:=List.pairwise_iff_getElem.1 h i j (by rw[nms_len];omega) (by rw[nms_len];exact hj) hi
 simpa [nms] using this
theorem asc_of {l:List Ins} (h:insErr l=0):AscI l:=by
 have h1:∀ k (hk:k+1 < l.length),bs (l[k]'(by omega)).name < bs l[k+1].name:=fun k hk=>by
  have h0:=firstI_allO h (insAt l (k+1)) (by
   have hk':k+1 < (insErrs l).length:=by rw[insErrs_length];exact hk
   rw[<-insErrs_get l (k+1) hk'];exact List.getElem_mem hk')
  rw[insAt_get hk] at h0
  have h2:=firstI_allO h0 (insGap l[k].name l[k+1].name) (by
   have e:l.getD (k+1 - 1) zeroI=l[k]:=by simp[List.getD,List.getElem?_eq_getElem (show k < l.length by omega)]
   rw[e];simp)
  unfold insGap at h2
  by_cases hb:(Op.bytesLess l[k+1].name.toList l[k].name.toList||l[k+1].name.toList==l[k].name.toList)=true
  ·rw[if_pos hb] at h2;cases h2
  ·simp only[ByteArray.toList_eq,Proofs.bytesLess_eq,Bool.or_eq_true,decide_eq_true_eq,beq_iff_eq,not_or] at hb
   exact strLt_of hb.1 hb.2
 have h3:∀ d i (hd:i+(d+1) < l.length),bs (l[i]'(by omega)).name < bs l[i+(d+1)].name:=by
  intro d
  induction d with
  | zero=>exact fun i hd=>h1 i hd
  | succ d ih=>exact fun i hd=>strLt_trans (ih i (by omega)) (h1 (i+(d+1)) hd)
 refine List.pairwise_iff_getElem.2 fun i j hi hj hij=>?_
 rw[nms_len] at hi hj
 rw[nms_at hi,nms_at hj]
 obtain⟨d,rfl⟩:∃ d,j=i+(d+1):=⟨j - i - 1,by omega⟩
 exact h3 d i hj
theorem asc_set {l:List Ins} (h:AscI l) {i:Nat} (hi:i < l.length) (v:V4):AscI (l.set i ⟨l[i].name,v⟩):=by
 have e:nms (l.set i ⟨l[i].name,v⟩)=nms l:=by
  unfold nms
  rw[List.map_set]
  have:(l.map fun x=>bs x.name)[i]'(by simpa using hi)=bs l[i].name:=by simp
  rw[<-this,List.set_getElem_self]
 unfold AscI
 rw[e];exact h
def BelI (l:List Ins) (x:Str) (h:Nat):Prop:=∀ k (hk:k < l.length),k < h->bs l[k].name < x
def AbvI (l:List Ins) (x:Str) (h:Nat):Prop:=∀ k (hk:k < l.length),h<=k->¬ bs l[k].name < x
def GtI (l:List Ins) (x:Str) (h:Nat):Prop:=∀ k (hk:k < l.length),h<=k->x < bs l[k].name
theorem belI_next {l:List Ins} (ha:AscI l) {x:Str} {h:Nat} (hh:h < l.length) (hx:bs l[h].name < x):BelI l x (h+1):=fun k hk hkh=>by
 by_cases e:k=h
 ·subst e;exact hx
 ·exact strLt_trans (ha.lt hh (by omega)) hx
theorem abvI_next {l:List Ins} (ha:AscI l) {x:Str} {h:Nat} (hh:h < l.length) (hx:¬ bs l[h].name < x):AbvI l x h:=fun k hk hkh=>by
 by_cases e:k=h
 ·subst e;exact hx
 ·exact fun h2=>hx (strLt_trans (ha.lt hk (by omega)) h2)
theorem gtI_of {l:List Ins} (ha:AscI l) {x:Str} {i:Nat} (hab:AbvI l x i) (he:∀ h:i < l.length,bs l[i].name≠x):GtI l x i:=fun k hk hik=>by
 have hi:i < l.length:=by omega
 have h0:x < bs l[i].name:=strLt_of (hab i hi (Nat.le_refl _)) (he hi)
 by_cases e:k=i
 ·subst e;exact h0
 ·exact strLt_trans h0 (ha.lt hk (by omega))
theorem asc_ins {l:List Ins} (h:AscI l) {i:Nat} (hi:i<=l.length) (nm:ByteArray) (v:V4) (hb:BelI l (bs nm) i) (hg:GtI l (bs nm) i):AscI (l.take i++⟨nm,v⟩::l.drop i):=by
 refine List.pairwise_iff_getElem.2 fun p q hp hq hpq=>?_
 rw[nms_len] at hp hq
 rw[nms_at hp,nms_at hq]
 have hlen:(l.take i++(⟨nm,v⟩:Ins)::l.drop i).length=l.length+1:=by simp;omega
 have ht:(l.take i).length=i:=by rw[List.length_take];omega
 have key:∀ r (hr:r < (l.take i++(⟨nm,v⟩:Ins)::l.drop i).length),(r < i->∃ h:r < l.length,(l.take i++(⟨nm,v⟩:Ins)::l.drop i)[r]=l[r])∧(r=i->(l.take i++(⟨nm,v⟩:Ins)::l.drop i)[r]=⟨nm,v⟩)∧(i < r->∃ h:r - 1 < l.length,(l.take i++(⟨nm,v⟩:Ins)::l.drop i)[r]=l[r - 1]):=fun r hr=>by
  refine⟨fun h1=>⟨by omega,?_⟩,fun h1=>?_,fun h1=>⟨by omega,?_⟩⟩
  ·rw[List.getElem_append_left (by omega),List.getElem_take]
  ·subst h1;rw[List.getElem_append_right (by omega)];simp[ht]
  ·rw[List.getElem_append_right (by omega),List.getElem_cons,dif_neg (by omega),List.getElem_drop]
   congr 1;omega
 obtain⟨p1,p2,p3⟩:=key p hp
 obtain⟨q1,q2,q3⟩:=key q hq
 rcases Nat.lt_trichotomy p i with c1|c1|c1
 ·obtain⟨hp',ep⟩:=p1 c1
  rw[ep]
  rcases Nat.lt_trichotomy q i with d1|d1|d1
  ·obtain⟨hq',eq⟩:=q1 d1
   rw[eq];exact h.lt hq' hpq
  ·rw[q2 d1];exact hb p hp' c1
  ·obtain⟨hq',eq⟩:=q3 d1
   rw[eq];exact h.lt hq' (by omega)
 ·rw[p2 c1]
  obtain⟨hq',eq⟩:=q3 (by omega)
  rw[eq];exact hg (q - 1) hq' (by omega)
 ·obtain⟨hp',ep⟩:=p3 c1
  obtain⟨hq',eq⟩:=q3 (by omega)
  rw[ep,eq];exact h.lt hq' (by omega)
structure Put (I I':List Ins) (nm:ByteArray) (v:V4):Prop where
 was:wasL I' nm.toList=some v
 mem:∀ x∈I',x∈I∨(x.vv=v∧(x.name=nm∨∃ y∈I,x.name=y.name))
 len:I'.length<=I.length+1
theorem wasL_at {l:List Ins} {nm:List UInt8} {i:Nat} (hi:i < l.length) (he:l[i].name.toList=nm) (h0:∀ j (hj:j < i),(l[j]'(by omega)).name.toList≠nm):wasL l nm=some l[i].vv:=by
 unfold wasL
 rw[find_at hi (by simpa using he) (fun j hj=>by have:=h0 j hj;simpa using this)]
 rfl
theorem put_set {l:List Ins} {nm:ByteArray} {i:Nat} (v:V4) (hi:i < l.length) (he:l[i].name.toList=nm.toList) (h0:∀ j (hj:j < i),(l[j]'(by omega)).name.toList≠nm.toList):Put l (l.set i ⟨l[i].name,v⟩) nm v:=by
 refine⟨?_,fun x hx=>?_,by rw[List.length_set];omega⟩
 ·rw[wasL_at (i:=i) (by rw[List.length_set];exact hi) (by rw[List.getElem_set_self];exact he) (fun j hj=>by rw[List.getElem_set_ne (by omega)];exact h0 j hj),List.getElem_set_self]
 ·rcases List.mem_or_eq_of_mem_set hx with h|h
  ·exact .inl h
  ·exact .inr ⟨by rw[h],.inr ⟨l[i],List.getElem_mem hi,by rw[h]⟩⟩
theorem put_ins {l:List Ins} {nm:ByteArray} {i:Nat} (v:V4) (hi:i<=l.length) (h0:∀ j (hj:j < i),(l[j]'(by omega)).name.toList≠nm.toList):Put l (l.take i++⟨nm,v⟩::l.drop i) nm v:=by
 have hlen:(l.take i++(⟨nm,v⟩:Ins)::l.drop i).length=l.length+1:=by simp;omega
 have ht:(l.take i).length=i:=by rw[List.length_take];omega
 have ei:(l.take i++(⟨nm,v⟩:Ins)::l.drop i)[i]'(by omega)=⟨nm,v⟩:=by rw[List.getElem_append_right (by omega)];simp[ht]
 refine⟨?_,fun x hx=>?_,by omega⟩
 ·rw[wasL_at (i:=i) (by omega) (by rw[ei]) (fun j hj=>by rw[List.getElem_append_left (by omega),List.getElem_take];exact h0 j hj),ei]
 ·rcases List.mem_append.1 hx with h|h
  ·exact .inl (List.mem_of_mem_take h)
  ·rcases List.mem_cons.1 h with h|h
   ·exact .inr ⟨by rw[h],.inl (by rw[h])⟩
   ·exact .inl (List.mem_of_mem_drop h)
theorem Put.small {I I':List Ins} {nm:ByteArray} {v:V4} (h:Put I I' nm v) (hs:SmallI I) (hn:nm.size<=2097152) (hv:v.a.size<=2097152):SmallI I':=fun x hx=>by
 rcases h.mem x hx with h1|⟨h1,h2|⟨y,hy,h2⟩⟩
 ·exact hs x h1
 ·rw[h1,h2];exact⟨hn,hv⟩
 ·rw[h1,h2];exact⟨(hs y hy).1,hv⟩
theorem Put.ok {I I':List Ins} {nm:ByteArray} {v:V4} (h:Put I I' nm v) (hs:∀ x∈I,x.vv.err=0) (hv:v.err=0):∀ x∈I',x.vv.err=0:=fun x hx=>by
 rcases h.mem x hx with h1|⟨h1,_⟩
 ·exact hs x h1
 ·rw[h1];exact hv
theorem name_ne {a b:ByteArray} (h:bs a < bs b):a.toList≠b.toList:=fun e=>by
 rw[ByteArray.toList_eq,ByteArray.toList_eq] at e
 have:bs a=bs b:=e
 rw[this] at h
 exact strLt_irrefl _ h
theorem name_eq {a b:ByteArray} (h:bs a=bs b):a.toList=b.toList:=by
 rw[ByteArray.toList_eq,ByteArray.toList_eq]
 exact h
theorem offS_congr {l:List Of} {F G:Of->Int} {nm:List UInt8} (h:∀ o∈l,o.name.toList=nm->F o=G o):∀ k,k<=l.length->offS l F nm k=offS l G nm k
 | 0,_=>rfl
 | k+1,hk=>by
   have hk1:k < l.length:=by omega
   have e:l.getD k zeroO=l[k]:=by simp[List.getD,List.getElem?_eq_getElem hk1]
   show offN l F nm k (offS l F nm k)=offN l G nm k (offS l G nm k)
   rw[offS_congr h k (by omega)]
   unfold offN
   rw[e]
   by_cases hn:l[k].name.toList=nm
   ·rw[if_pos hn,if_pos hn,h l[k] (List.getElem_mem hk1) hn]
   ·rw[if_neg hn,if_neg hn]
theorem offR_congr {l:List Of} {F G:Of->Int} {nm:List UInt8} (h:∀ o∈l,o.name.toList=nm->F o=G o):offR l F nm=offR l G nm:=by
 unfold offR
 rw[offS_congr h l.length (Nat.le_refl _)]
theorem offS_why (l:List Of) (F:Of->Int) (nm:List UInt8):∀ k,(offS l F nm k).1 < 0->(offS l F nm k).2≠0
 | 0,_=>by show (8:Int)≠0;decide
 | k+1,h=>by
   have ih:=offS_why l F nm k
   have hd:offS l F nm (k+1)=offN l F nm k (offS l F nm k):=rfl
   rw[hd] at h ⊢
   unfold offN at h ⊢
   split
   ·rename_i hn
    rw[if_pos hn] at h
    split
    ·rename_i hc
     rw[if_pos hc] at h
     have:(k:Int) < 0:=h
     omega
    ·rename_i hc
     rw[if_neg hc] at h
     exact fun h0=>hc ⟨h0,.inl h⟩
   ·rename_i hn
    rw[if_neg hn] at h
    exact ih h
theorem offR_cases (l:List Of) (F:Of->Int) (nm:List UInt8):((offR l F nm).1 < 0∧(offR l F nm).1=-1∧(offR l F nm).2≠0)∨(∃ i,∃ _h:i < l.length,(offR l F nm).1=(i:Int)∧(offR l F nm).2=0):=by
 unfold offR
 have h1:=offS_lt l F nm l.length
 have h2:=offS_why l F nm l.length
 generalize offS l F nm l.length=s at *
 by_cases h:0<=s.1
 ·rw[if_pos h]
  exact .inr ⟨s.1.toNat,by omega,by show s.1=_;omega,rfl⟩
 ·rw[if_neg h]
  exact .inl ⟨by show (-1:Int) < 0;decide,rfl,h2 (by omega)⟩
def folR (l:List Of) (m:Mac) (nm:ByteArray) (t:Int) (was:Option V4):Int × Int:=offR l (fun o=>fitL o was m (holdM o m) t) nm.toList
theorem folR_of (l:List Of) (m:Mac) (nm:ByteArray) (t:Int) (I:List Ins):offR l (fun o=>fitM o ⟨m.name,I,m.facts,m.sets,m.pins⟩ t) nm.toList=folR l m nm t (wasL I nm.toList):=by
 unfold folR
 refine offR_congr fun o _ hn=>?_
 unfold fitM
 rw[hn]
 rfl
def folN (l:List Of) (m:Mac) (nm:ByteArray) (t:Int) (s:Option V4 × List Of):Option V4 × List Of :=
 if 0<=(folR l m nm t s.1).1 then (some (l.getD (folR l m nm t s.1).1.toNat zeroO).vv,s.2++[l.getD (folR l m nm t s.1).1.toNat zeroO]) else s
def folS (l:List Of) (m:Mac) (nm:ByteArray) (t0:Int):Nat->Option V4 × List Of
 | 0=>(wasL m.inst nm.toList,[])
 | k+1=>folN l m nm (t0+3600 * k) (folS l m nm t0 k)
theorem folS_len (l:List Of) (m:Mac) (nm:ByteArray) (t0:Int):∀ k,(folS l m nm t0 k).2.length<=k
 | 0=>by show 0<=0;omega
 | k+1=>by
   have ih:=folS_len l m nm t0 k
   show (folN l m nm _ (folS l m nm t0 k)).2.length<=k+1
   unfold folN
   split
   ·show ((folS l m nm t0 k).2++_).length<=_
    rw[List.length_append]
    simp
    omega
   ·omega
theorem folS_mem (l:List Of) (m:Mac) (nm:ByteArray) (t0:Int):∀ k,∀ o∈(folS l m nm t0 k).2,o∈l
 | 0,o,h=>by cases h
 | k+1,o,h=>by
   have ih:=folS_mem l m nm t0 k
   have hd:folS l m nm t0 (k+1)=folN l m nm (t0+3600 * k) (folS l m nm t0 k):=rfl
   rw[hd] at h
   unfold folN at h
   split at h
   ·rename_i hc
    rcases List.mem_append.1 h with h1|h1
    ·exact ih o h1
    ·rw[List.mem_singleton] at h1
     rcases offR_cases l (fun o=>fitL o (folS l m nm t0 k).1 m (holdM o m) (t0+3600 * k)) nm.toList with ⟨h2,_⟩|⟨i,hi,h2,_⟩
     ·unfold folR at hc;omega
     ·have e:(folR l m nm (t0+3600 * k) (folS l m nm t0 k).1).1.toNat=i:=by unfold folR;rw[h2];rfl
      rw[h1,e]
      have e2:l.getD i zeroO=l[i]:=by simp[List.getD,List.getElem?_eq_getElem hi]
      rw[e2];exact List.getElem_mem hi
   ·exact ih o h
theorem folS_no {l:List Of} {m:Mac} {nm:ByteArray} {t0:Int} {k:Nat} (h:(folR l m nm (t0+3600 * k) (folS l m nm t0 k).1).1 < 0):folS l m nm t0 (k+1)=folS l m nm t0 k:=by
 show folN l m nm _ (folS l m nm t0 k)=_
 unfold folN
 rw[if_neg (by omega)]
theorem folS_yes {l:List Of} {m:Mac} {nm:ByteArray} {t0:Int} {k i:Nat} (hi:i < l.length) (h:(folR l m nm (t0+3600 * k) (folS l m nm t0 k).1).1=i):folS l m nm t0 (k+1)=(some l[i].vv,(folS l m nm t0 k).2++[l[i]]):=by
 show folN l m nm _ (folS l m nm t0 k)=_
 unfold folN
 have e2:l.getD i zeroO=l[i]:=by simp[List.getD,List.getElem?_eq_getElem hi]
 rw[if_pos (by omega),h]
 show (some (l.getD i zeroO).vv,_++[l.getD i zeroO])=_
 rw[e2]
def folK (t0 te:Int):Nat:=((te - t0) / 3600).toNat+1
def folL (l:List Of) (m:Mac) (nm:ByteArray) (t0 te:Int):List Of:=(folS l m nm t0 (folK t0 te)).2
end
section
open Go.RowKit
theorem store_offer {on:ByteArray} {o1 o2 o3:Int} {oa os:ByteArray} {A1:Option Addr} {ol c1:Nat} {ow:Bool} {kk:Int} {nn xx:ByteArray} {A2:Option Addr} {m2 c2:Nat} {ob ot og:Int} {oh ou ok:Bool} {w:World} {g:Nat} {cur:Array Value} (hb:Blk w g 66 cur) (hs:cur.size=18) :
 (storeVar 66 ⟨g,0,none⟩ (.agg #[.string on,.int .i64 o1,.int .i64 o2,.int .i64 o3,.string oa,.string os,.slice A1 ol c1,.bool ow,.int .i64 kk,.string nn,.string xx,.slice A2 m2 c2,.int .i64 ob,.int .i64 ot,.int .i64 og,.bool oh,.bool ou,.bool ok])).run Tryz.prog w=.ok () (w.setRow g #[.string on,.int .i64 o1,.int .i64 o2,.int .i64 o3,.string oa,.string os,.slice A1 ol c1,.bool ow,.int .i64 kk,.string nn,.string xx,.slice A2 m2 c2,.int .i64 ob,.int .i64 ot,.int .i64 og,.bool oh,.bool ou,.bool ok]) :=
 run_store_blk 66 hb (by rw[hs];rfl) (by kernel_rfl) (by simp[Value.cells,Value.oneCell'])
theorem alloc_setRow (w:World) (Z O:Array Value) (T:TypeId):(w.alloc (.cells Z T)).setRow w.heap.size O=w.alloc (.cells O T):=by
 have h:∀ (h:Array Obj) (f:Obj->Obj) (o:Obj),(h.push o).modify h.size f=h.push (f o):=fun h f o=>by
  apply Array.ext
  ·simp
  ·intro i h1 h2
   rw[Array.getElem_modify,Array.getElem_push,Array.getElem_push]
   by_cases e:i < h.size
   ·rw[if_neg (by omega),dif_pos e,dif_pos e]
   ·rw[if_pos (by simp at h2;omega),dif_neg e,dif_neg e]
 unfold World.setRow World.alloc
 simp only[h]
theorem store_fresh {on:ByteArray} {o1 o2 o3:Int} {oa os:ByteArray} {A1:Option Addr} {ol c1:Nat} {ow:Bool} {kk:Int} {nn xx:ByteArray} {A2:Option Addr} {m2 c2:Nat} {ob ot og:Int} {oh ou ok:Bool} (w:World) :
 (storeVar 66 ⟨w.heap.size,0,none⟩ (.agg #[.string on,.int .i64 o1,.int .i64 o2,.int .i64 o3,.string oa,.string os,.slice A1 ol c1,.bool ow,.int .i64 kk,.string nn,.string xx,.slice A2 m2 c2,.int .i64 ob,.int .i64 ot,.int .i64 og,.bool oh,.bool ou,.bool ok])).run Tryz.prog (w.alloc (.cells #[.string ⟨#[]⟩,.int .i64 0,.int .i64 0,.int .i64 0,.string ⟨#[]⟩,.string ⟨#[]⟩,.slice none 0 0,.bool false,.int .i64 0,.string ⟨#[]⟩,.string ⟨#[]⟩,.slice none 0 0,.int .i64 0,.int .i64 0,.int .i64 0,.bool false,.bool false,.bool false] 66))=.ok () (w.alloc (.cells #[.string on,.int .i64 o1,.int .i64 o2,.int .i64 o3,.string oa,.string os,.slice A1 ol c1,.bool ow,.int .i64 kk,.string nn,.string xx,.slice A2 m2 c2,.int .i64 ob,.int .i64 ot,.int .i64 og,.bool oh,.bool ou,.bool ok] 66)):=by
 rw[store_offer (Blk.new w _ _) rfl,alloc_setRow]
theorem setRow_extC {w:World} {g:Nat} {e:TypeId} {cur cs:Array Value} (_hb:Blk w g e cur):ExtC (fun i=>i=g) w (w.setRow g cs):=⟨rfl,rfl,rfl,by simp[World.setRow],fun k _ hne=>setRow_other _ _ _ _ hne⟩
theorem setRow_blk {w:World} {g:Nat} {e:TypeId} {cur cs:Array Value} (hb:Blk w g e cur):Blk (w.setRow g cs) g e cs:=setRow_heap _ _ _ _ _ _ hb
theorem wpList_load_g {P:Program} {ops:Array Oper} {rest:List Oper} {o:Oper} {a:Act} {w:World} {Q:Exit->Act->World->Prop} (hw:Region.wanted o (yielded ops a.tmps)=true) (ty:TypeId) (x:Operand) (ho:o.op=.load ty x)
 (p:Addr) (hx:a.eval x=.pointer (some p)) (v:Value) (hl:(loadVar ty p).run P w=.ok v w) (h:wpList P ops Q rest (a.put o.dst v) w):wpList P ops Q (o::rest) a w :=
 wpList_step fun K hK=>by
  rw[if_pos hw]
  unfold Oper.wp execOp
  simp only[ho,hx,Instr.loadAt,Instr.sureAddr,Sem.run_bind,Sem.run_pure,Result.andThen_ok,hl]
  exact hK _ _ h
theorem results_cell3 {P:Program} {fn:Func} {a b c:Nat} {T:TypeId} {p:Addr} {v x y:Value} {tmps:Array Value} {w:World} (h:fn.results=#[.cell a T,.tmp b,.tmp c]) (ha:tmps.getD a undef=.pointer (some p)) (hb:tmps.getD b undef=x) (hc:tmps.getD c undef=y) (hl:(loadVar T p).run P w=.ok v w) :
 (results fn tmps).run P w=.ok (.tuple #[v,x,y]) w:=by
 have ha2:tmps[a]?.getD undef=.pointer (some p):=by simpa using ha
 have hb2:tmps[b]?.getD undef=x:=by simpa using hb
 have hc2:tmps[c]?.getD undef=y:=by simpa using hc
 generalize hL:loadVar T p=L at hl
 have hL2:(loadVar T p).run P w=.ok v w:=by rw[hL];exact hl
 unfold results
 rw[h]
 simp[Result.andThen_ok,ha2,hb2,hc2,asAddr,hL2]
theorem results_cell2 {P:Program} {fn:Func} {a b:Nat} {T:TypeId} {p:Addr} {v x:Value} {tmps:Array Value} {w:World} (h:fn.results=#[.cell a T,.tmp b]) (ha:tmps.getD a undef=.pointer (some p)) (hb:tmps.getD b undef=x) (hl:(loadVar T p).run P w=.ok v w) :
 (results fn tmps).run P w=.ok (.tuple #[v,x]) w:=by
 have ha2:tmps[a]?.getD undef=.pointer (some p):=by simpa using ha
 have hb2:tmps[b]?.getD undef=x:=by simpa using hb
 generalize hL:loadVar T p=L at hl
 have hL2:(loadVar T p).run P w=.ok v w:=by rw[hL];exact hl
 unfold results
 rw[h]
 simp[Result.andThen_ok,ha2,hb2,asAddr,hL2]
end
section
open Go.RowKit
theorem cmpB_three:∀ a b:Str,Lib.compareBytes a b=-1∨Lib.compareBytes a b=0∨Lib.compareBytes a b=1
 | [],[]=>by simp[Lib.compareBytes]
 | [],b::rb=>by simp[Lib.compareBytes]
 | a::ra,[]=>by simp[Lib.compareBytes]
 | a::ra,b::rb=>by
   unfold Lib.compareBytes
   by_cases h:a < b
   ·simp[h]
   ·by_cases h2:b < a
    ·simp[h,h2]
    ·rw[if_neg h,if_neg h2];exact cmpB_three ra rb
theorem less_bs (a b:ByteArray):(Op.bytesLess a.toList b.toList=true)↔bs a < bs b:=by
 simp only[ByteArray.toList_eq,Proofs.bytesLess_eq,decide_eq_true_eq]
theorem cmpB_swap (a b:Str) (h:¬ a < b) (h2:¬ b < a):a=b:=List.le_antisymm (List.not_lt.1 h2) (List.not_lt.1 h)
set_option maxHeartbeats 4000000 in
set_option maxRecDepth 100000 in
theorem fol1_any (x:Ins) (A:Option Addr) (m c:Nat) (b:Bool) (k:ByteArray) (w:World) :
 Calls Tryz.prog 142 #[insV x A m c b,.string k] w fun e w'=>e=.returned (.int .i64 (Lib.compareBytes (bs x.name) (bs k)))∧Ext w w':=by
 obtain⟨xn,⟨v1,v2,v3,va⟩⟩:=x
 dsimp only[insV]
 have b1:=Blk.new w 178 #[.string xn,.int .i64 v1,.int .i64 v2,.int .i64 v3,.string va,.slice A m c,.bool b]
 have hx0:Ext w (w.alloc (.cells #[.string xn,.int .i64 v1,.int .i64 v2,.int .i64 v3,.string va,.slice A m c,.bool b] 178)):=(Ext.refl w).alloc _
 have e1:=b1.cell;have l1:=b1.lt
 have C1:=Hy (cmpB_lt (bs xn) (bs k));have C2:=Hy (cmpB_zero (bs xn) (bs k));have C3:=Hy (cmpB_three (bs xn) (bs k))
 have L1:=Hy (less_bs xn k);have L2:=Hy (less_bs k xn)
 by_cases h1:Op.bytesLess xn.toList k.toList=true
 ·have hz:=Hy (show Lib.compareBytes (bs xn) (bs k)=-1 from by have:=C1.out.2 (L1.out.1 h1);have:=C3.out;omega)
  generalize Lib.compareBytes (bs xn) (bs k)=z at *
  go_enter Tryz.func142,Tryz.ntmps142
  go_wp2
  go_ret
  exact⟨ret_int hz.out.symm,hx0⟩
 ·by_cases h2:Op.bytesLess k.toList xn.toList=true
  ·have hz:=Hy (show Lib.compareBytes (bs xn) (bs k)=1 from by
    have h3:=L2.out.1 h2
    have n1:¬ Lib.compareBytes (bs xn) (bs k) < 0:=fun e=>strLt_irrefl _ (strLt_trans (C1.out.1 e) h3)
    have n2:¬ Lib.compareBytes (bs xn) (bs k)=0:=fun e=>by have:=C2.out.1 e;rw[this] at h3;exact strLt_irrefl _ h3
    have:=C3.out;omega)
   generalize Lib.compareBytes (bs xn) (bs k)=z at *
   have h1':Op.bytesLess xn.toList k.toList=false:=by simpa using h1
   have hq:(xn.toList==k.toList)=false:=by
    rw[beq_eq_false_iff_ne]
    intro e
    have h3:=L2.out.1 h2
    have h4:bs xn=bs k:=by rw[ByteArray.toList_eq,ByteArray.toList_eq] at e;exact e
    rw[h4] at h3
    exact strLt_irrefl _ h3
   clear h1
   go_enter Tryz.func142,Tryz.ntmps142
   go_wp2
   go_ret
   exact⟨ret_int hz.out.symm,hx0⟩
  ·have hq:(xn.toList==k.toList)=true:=by
    rw[beq_iff_eq,ByteArray.toList_eq,ByteArray.toList_eq]
    exact cmpB_swap _ _ (fun e=>h1 (L1.out.2 e)) (fun e=>h2 (L2.out.2 e))
   have hz:=Hy (show Lib.compareBytes (bs xn) (bs k)=0 from C2.out.2 (cmpB_swap _ _ (fun e=>h1 (L1.out.2 e)) (fun e=>h2 (L2.out.2 e))))
   generalize Lib.compareBytes (bs xn) (bs k)=z at *
   have h1':Op.bytesLess xn.toList k.toList=false:=by simpa using h1
   have h2':Op.bytesLess k.toList xn.toList=false:=by simpa using h2
   clear h1 h2
   go_enter Tryz.func142,Tryz.ntmps142
   go_wp2
   go_ret
   exact⟨ret_int hz.out.symm,hx0⟩
set_option maxHeartbeats 4000000 in
set_option maxRecDepth 100000 in
theorem BinI_any (A:Option Addr) (n c:Nat) (l:List Ins) (key:ByteArray) (w:World) (hn:l.length=n) (hr:RdIns w A l) (hl:n<=2097152) (ha:AscI l) :
 Calls Tryz.prog 141 #[.slice A n c,.string key,.func (.func 142) #[] #[]] w fun e w' =>
  ∃ (i:Nat) (r:Bool),e=.returned (.tuple #[.int .i64 i,.bool r])∧i<=n∧BelI l (bs key) i∧(r=true->∃ h:i < l.length,bs l[i].name=bs key)∧(r=false->GtI l (bs key) i)∧Ext w w':=by
 have hen:∀ xs w,Sem.run Tryz.prog (callFunc 142 xs) w=.ok (.enter 142 xs) w:=fun xs w=>by kernel_rfl
 have HN:=Hy hn
 have HR:=Hy hr
 have HASC:=Hy ha
 clear hn hr ha
 go_enter Tryz.func141,Tryz.ntmps141
 go_wp2
 go_loopg [9,10] n (fun kx s9 s10 wr=>∃ lo hi:Nat,s9=.int .i64 lo∧s10=.int .i64 hi∧lo<=hi∧hi<=n∧hi - lo<=kx∧Ext w wr∧Hid (BelI l (bs key) lo∧AbvI l (bs key) hi))
 case atStart=>exact⟨0,n,rfl,rfl,Nat.zero_le _,Nat.le_refl _,by omega,Ext.refl _,Hy ⟨fun k _ h=>absurd h (Nat.not_lt_zero _),fun k hk h=>by have:=HN.out;omega⟩⟩
 case round =>
  obtain⟨lo,hi,rfl,rfl,hlh,hin,hg,hxr,I⟩:=hrel
  by_cases hlt:lo < hi
  ·have hk1:(lo+hi) / 2 < l.length:=by rw[HN.out];omega
   obtain⟨b,o,rfl,hX⟩:=HR.out (fun e=>by rw[e] at hk1;exact absurd hk1 (Nat.not_lt_zero _))
   obtain⟨A1,m1,c1,b1,hrow⟩:=hX _ hk1
   have LD:=(hrow.ext hxr).load
   have HBN:=Hy (fun e=>belI_next (l:=l) HASC.out (x:=bs key) hk1 e)
   have HAN:=Hy (fun e=>abvI_next (l:=l) HASC.out (x:=bs key) hk1 e)
   have CK:=Hy (fun W=>fol1_any l[(lo+hi) / 2] A1 m1 c1 b1 key W)
   have CL:=Hy (cmpB_lt (bs l[(lo+hi) / 2].name) (bs key))
   have hlb:=lt_of_cell ((hrow.ext hxr) 0 _ rfl)
   clear hX hrow
   generalize l[(lo+hi) / 2]=s at *
   by_cases hyx:Lib.compareBytes (bs s.name) (bs key) < 0
   ·have hbn:=HBN.out (CL.out.1 hyx)
    have HB2:=Hy hbn
    clear hbn HBN HAN
    generalize Lib.compareBytes (bs s.name) (bs key)=z at *
    go_wp2_with (refine wpList_load_at rfl _ _ rfl _ rfl _ LD ?_)
    refine (CK.out _).mono ?_
    rintro e w1 ⟨rfl,hx1⟩
    clear LD
    go_wp2
    go_roundg (hi - ((lo+hi) / 2+1))
    case measure=>omega
    case rel=>exact⟨(lo+hi) / 2+1,hi,by rw[show ((lo:Int)+(hi:Int)) / 2+1=(((lo+hi) / 2+1:Nat):Int) by omega],rfl,by omega,hin,Nat.le_refl _,hxr.trans hx1,Hy ⟨HB2.out,I.out.2⟩⟩
   ·have hbn:=HAN.out (fun e=>hyx (CL.out.2 e))
    have HB2:=Hy hbn
    clear hbn HBN HAN
    generalize Lib.compareBytes (bs s.name) (bs key)=z at *
    go_wp2_with (refine wpList_load_at rfl _ _ rfl _ rfl _ LD ?_)
    refine (CK.out _).mono ?_
    rintro e w1 ⟨rfl,hx1⟩
    clear LD
    go_wp2
    go_roundg ((lo+hi) / 2 - lo)
    case measure=>omega
    case rel=>exact⟨lo,(lo+hi) / 2,rfl,by rw[show ((lo:Int)+(hi:Int)) / 2=(((lo+hi) / 2:Nat):Int) by omega],by omega,by omega,Nat.le_refl _,hxr.trans hx1,Hy ⟨I.out.1,HB2.out⟩⟩
  ·obtain rfl:lo=hi:=by omega
   by_cases hn:lo < n
   ·have hk1:lo < l.length:=by rw[HN.out];exact hn
    obtain⟨b,o,rfl,hX⟩:=HR.out (fun e=>by rw[e] at hk1;exact absurd hk1 (Nat.not_lt_zero _))
    obtain⟨A1,m1,c1,b1,hrow⟩:=hX _ hk1
    have hat:=hrow.ext hxr
    have z0:=hat 0 _ rfl;have z1:=hat 1 _ rfl;have z2:=hat 2 _ rfl;have z3:=hat 3 _ rfl;have z4:=hat 4 _ rfl;have z5:=hat 5 _ rfl;have z6:=hat 6 _ rfl
    rw[Nat.add_zero] at z0
    have CK:=Hy (fun W=>fol1_any l[lo] A1 m1 c1 b1 key W)
    have HFIN:=Hy (show (Lib.compareBytes (bs l[lo].name) (bs key)=0->∃ h:lo < l.length,bs l[lo].name=bs key)∧(¬ Lib.compareBytes (bs l[lo].name) (bs key)=0->GtI l (bs key) lo) from
     ⟨fun e=>⟨hk1,(cmpB_zero _ _).1 e⟩,fun e=>gtI_of HASC.out I.out.2 fun h e2=>e ((cmpB_zero _ _).2 e2)⟩)
    have hlb:=lt_of_cell ((hrow.ext hxr) 0 _ rfl)
    clear hX hrow hat
    generalize l[lo]=s at *
    obtain⟨sn,⟨s1,s2,s3,sa⟩⟩:=s
    dsimp only[insV] at *
    generalize Lib.compareBytes (bs sn) (bs key)=z at *
    by_cases hz:z=0
    ·go_wp2_with fail
     refine (CK.out _).mono ?_
     rintro e w1 ⟨rfl,hx1⟩
     go_wp2
     go_ret2
     exact⟨lo,true,by simp,hin,I.out.1,fun _=>HFIN.out.1 hz,(fun h=>by cases h),hxr.trans hx1⟩
    ·go_wp2_with fail
     refine (CK.out _).mono ?_
     rintro e w1 ⟨rfl,hx1⟩
     go_wp2
     go_ret2
     exact⟨lo,false,by simp[hz],hin,I.out.1,(fun h=>by cases h),fun _=>HFIN.out.2 hz,hxr.trans hx1⟩
   ·have HFIN:=Hy (show GtI l (bs key) lo from fun k hk hik=>absurd hk (by rw[HN.out];omega))
    go_wp2
    go_ret2
    exact⟨lo,false,by simp,hin,I.out.1,(fun h=>by cases h),fun _=>HFIN.out,hxr⟩
end
end Go.Proofs.YtmnafaaijglnfaaGreatDoor
