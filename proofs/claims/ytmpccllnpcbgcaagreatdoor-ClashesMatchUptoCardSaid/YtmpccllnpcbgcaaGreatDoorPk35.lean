/- Places and their owners, in plain words. Contracts of pack.marked, chosenFault, closed, Closed; outref2.ChosenError. Contracts of pack.chosenFault, closed, Closed; outref2.ChosenError. Contracts of pack.closed, Closed. A range over a set of texts; what chosen components have with them, in plain words; leads, of few needs. Contract of pack.allowed. Contract of outref2.DefaultsOf: plain part, its closure. slices.Clone over items, steps, conditions. (Printed by gen/plclone.py.) What a right package gives, for the reference's Allowed and Defaults. Contract of outlaw2.packs. -/
import Derived.Test.YtmpccllnpcbgcaaGreatDoorPk34
import Derived.Test.YtmpccllnpcbgcaaGreatDoorPk10
namespace Go.Proofs.YtmpccllnpcbgcaaGreatDoor
section
open Go.RowKit
abbrev Ent:=(Int × ByteArray) × ByteArray
def entsC (c:Cmp) (m:Nat):List Ent:=(c.items.take m).map fun x=>(spotP x,c.name)
def entsL (l:List Cmp):List Ent:=l.flatMap fun c=>entsC c c.items.length
def lookF (E:List Ent):Int × ByteArray->Option Value:=fun k=>(E.find? fun e=>decide (e.1=k)).map fun e=>.string e.2
theorem lookF_add {E:List Ent} {k:Int × ByteArray} (v:ByteArray) (h:k ∉ E.map Prod.fst):setK (lookF E) k (.string v)=lookF (E++[(k,v)]):=by
 funext x
 by_cases e:x=k
 ·subst e
  rw[setK_same]
  unfold lookF
  have hn:E.find? (fun e=>decide (e.1=x))=none:=by
   rw[List.find?_eq_none]
   intro y hy hh
   rw[decide_eq_true_eq] at hh
   exact h (List.mem_map.2 ⟨y,hy,hh⟩)
  rw[List.find?_append,hn]
  simp
 ·rw[setK_ne e]
  unfold lookF
  rw[List.find?_append]
  have:([(k,v)]:List Ent).find? (fun e=>decide (e.1=x))=none:=by
   rw[List.find?_eq_none]
   intro y hy hh
   rw[List.mem_singleton] at hy
   subst hy
   rw[decide_eq_true_eq] at hh
   exact e hh.symm
  rw[this]
  simp
theorem lookF_none {E:List Ent} {k:Int × ByteArray}:lookF E k=none↔k ∉ E.map Prod.fst:=by
 unfold lookF
 rw[Option.map_eq_none_iff,List.find?_eq_none,List.mem_map]
 constructor
 ·rintro h ⟨y,hy,e⟩
  exact h y hy (by simp[e])
 ·intro h y hy hh
  rw[decide_eq_true_eq] at hh
  exact h ⟨y,hy,hh⟩
theorem lookF_isSome {E:List Ent} {k:Int × ByteArray}:(lookF E k).isSome=inP k (E.map Prod.fst):=by
 by_cases h:k∈E.map Prod.fst
 ·rw[inP_iff.2 h]
  cases e:lookF E k with
  | none=>exact absurd h (lookF_none.1 e)
  | some v=>rfl
 ·rw[inP_no.2 h,lookF_none.2 h];rfl
theorem entsC_fst (c:Cmp) (m:Nat):(entsC c m).map Prod.fst=(c.items.take m).map spotP:=by unfold entsC;rw[List.map_map];rfl
theorem entsC_all (c:Cmp):(entsC c c.items.length).map Prod.fst=c.items.map spotP:=by rw[entsC_fst,List.take_length]
theorem entsL_fst (l:List Cmp):(entsL l).map Prod.fst=(itemsL l).map spotP:=by
 unfold entsL itemsL
 rw[List.map_flatMap,List.map_flatMap]
 congr 1
 funext c
 exact entsC_all c
theorem entsC_succ (c:Cmp) {m:Nat} (h:m < c.items.length):entsC c (m+1)=entsC c m++[(spotP c.items[m],c.name)]:=by
 unfold entsC
 rw[List.take_succ_eq_append_getElem h,List.map_append];rfl
theorem entsL_succ {l:List Cmp} {k:Nat} (h:k < l.length):entsL (l.take (k+1))=entsL (l.take k)++entsC l[k] l[k].items.length:=(flat_take_succ (fun c=>entsC c c.items.length) l k h).symm
theorem itemsL_ix {l:List Cmp} {k m:Nat} (hk:k < l.length) (hm:m < l[k].items.length):∃ h:(itemsL (l.take k)).length+m < (itemsL l).length,(itemsL l)[(itemsL (l.take k)).length+m]=l[k].items[m]∧(itemsL l).take ((itemsL (l.take k)).length+m)=itemsL (l.take k)++l[k].items.take m:=by
 have e:itemsL l=itemsL (l.take k)++(l[k].items++itemsL (l.drop (k+1))):=by
  have h1:l=l.take k++(l[k]::l.drop (k+1)):=by rw[<-List.drop_eq_getElem_cons hk,List.take_append_drop]
  have h2:itemsL l=itemsL (l.take k++(l[k]::l.drop (k+1))):=by rw[<-h1]
  rw[h2]
  unfold itemsL
  rw[List.flatMap_append,List.flatMap_cons]
 have hlt:(itemsL (l.take k)).length+m < (itemsL l).length:=by rw[e,List.length_append,List.length_append];omega
 refine⟨hlt,?_,?_⟩
 ·have:(itemsL l)[(itemsL (l.take k)).length+m]?=some l[k].items[m]:=by
   rw[e,List.getElem?_append_right (by omega),Nat.add_sub_cancel_left,List.getElem?_append_left hm,List.getElem?_eq_getElem hm]
  rw[List.getElem?_eq_getElem hlt] at this
  exact Option.some.inj this
 ·rw[e,List.take_append,List.take_append]
  have e1:(itemsL (l.take k)).length+m - (itemsL (l.take k)).length=m:=Nat.add_sub_cancel_left _ _
  rw[e1,List.take_of_length_le (show (itemsL (l.take k)).length<=(itemsL (l.take k)).length+m by omega),show m - l[k].items.length=0 from by omega]
  simp
theorem places_nd {I:List Itm} (h:∀ j,j < I.length->twiceAt I j=0):(I.map spotP).Nodup:=by
 rw[List.Nodup,List.pairwise_iff_getElem]
 intro i j hi hj hij e
 have hj':j < I.length:=by simpa using hj
 have h1:=h j hj'
 rw[twiceAt_eq hj'] at h1
 have hm:spotP I[j]∈(I.take j).map spotP:=by
  rw[List.mem_map]
  refine⟨I[i],?_,by simpa using e⟩
  rw[List.mem_take_iff_getElem]
  exact⟨i,by omega,rfl⟩
 rw[inP_iff.2 hm] at h1
 cases h1
theorem lookF_at {E:List Ent} (hn:(E.map Prod.fst).Nodup) {e:Ent} (he:e∈E):lookF E e.1=some (.string e.2):=by
 unfold lookF
 induction E with
 | nil=>cases he
 | cons d E ih =>
   rw[List.map_cons,List.nodup_cons] at hn
   rw[List.find?_cons]
   rcases List.mem_cons.1 he with rfl|he
   ·simp
   ·have hne:¬ d.1=e.1:=fun h=>hn.1 (by rw[h];exact List.mem_map_of_mem he)
    rw[decide_eq_false hne]
    exact ih hn.2 he
theorem hasFile_look {l:List Cmp} (hn:((itemsL l).map spotP).Nodup) (g:ByteArray->Bool) (p:ByteArray) :
 hasFile l (fun d=>g d.name) p=match lookF (entsL l) (1,p) with|some (.string o)=>g o|_=>false:=by
 have hn':((entsL l).map Prod.fst).Nodup:=by rw[entsL_fst];exact hn
 have key:hasFile l (fun d=>g d.name) p=true↔∃ e∈entsL l,e.1=(1,p)∧g e.2=true:=by
  unfold hasFile
  rw[List.any_eq_true]
  constructor
  ·rintro ⟨d,hd,h⟩
   rw[Bool.and_eq_true,List.any_eq_true] at h
   obtain⟨h1,y,hy,h2⟩:=h
   rw[Bool.and_eq_true,decide_eq_true_eq,decide_eq_true_eq] at h2
   have hk:spotP y=(1,p):=by
    unfold spotP
    rw[h2.1]
    have:spotN y=y.path:=by
     have hs:=h2.1
     unfold spotK at hs
     unfold spotN
     split at hs
     ·cases hs
     ·rename_i h5
      split at hs
      ·cases hs
      ·rename_i h6
       rw[if_neg h5,if_neg h6]
    rw[this,h2.2]
   refine⟨(spotP y,d.name),?_,hk,h1⟩
   unfold entsL
   rw[List.mem_flatMap]
   exact⟨d,hd,by unfold entsC;rw[List.take_length];exact List.mem_map.2 ⟨y,hy,rfl⟩⟩
  ·rintro ⟨e,he,hk,hg⟩
   unfold entsL at he
   obtain⟨d,hd,he⟩:=List.mem_flatMap.1 he
   unfold entsC at he
   rw[List.take_length] at he
   obtain⟨y,hy,rfl⟩:=List.mem_map.1 he
   refine⟨d,hd,?_⟩
   rw[Bool.and_eq_true,List.any_eq_true]
   refine⟨hg,y,hy,?_⟩
   have hk:(spotK y,spotN y)=(1,p):=hk
   rw[Prod.mk.injEq] at hk
   have:spotN y=y.path:=by
    have hs:=hk.1
    unfold spotK at hs
    unfold spotN
    split at hs
    ·cases hs
    ·rename_i h5
     split at hs
     ·cases hs
     ·rename_i h6
      rw[if_neg h5,if_neg h6]
   rw[Bool.and_eq_true,decide_eq_true_eq,decide_eq_true_eq,<-this]
   exact hk
 cases hl:lookF (entsL l) (1,p) with
 | none =>
   have hno:=lookF_none.1 hl
   rw[Bool.eq_false_iff]
   intro h
   obtain⟨e,he,hk,_⟩:=key.1 h
   exact hno (List.mem_map.2 ⟨e,he,hk⟩)
 | some v =>
   obtain⟨e,he,rfl⟩:∃ e:Ent,(e∈entsL l∧e.1=(1,p))∧v=.string e.2:=by
    unfold lookF at hl
    rw[Option.map_eq_some_iff] at hl
    obtain⟨e,hf,rfl⟩:=hl
    have:=List.find?_some hf
    rw[decide_eq_true_eq] at this
    exact⟨e,⟨List.mem_of_find?_eq_some hf,this⟩,rfl⟩
   show _=g e.2
   rw[Bool.eq_iff_iff,key]
   constructor
   ·rintro ⟨e',he',hk',hg⟩
    have h1:=lookF_at hn' he'
    have h2:=lookF_at hn' he.1
    rw[hk'] at h1
    rw[he.2,h1] at h2
    have:e'.2=e.2:=by injection h2 with h2;injection h2
    rw[<-this];exact hg
   ·intro hg
    exact⟨e,he.1,he.2,hg⟩
theorem svcAt_look {l:List Cmp} (_hnd:(l.map Cmp.name).Nodup) (hn:((itemsL l).map spotP).Nodup) {k:Nat} (hk:k < l.length) :
 svcAt l k=if l[k].items.all (fun x=>!decide (x.kind=6)||(match lookF (entsL l) (1,x.sp) with|some (.string o)=>decide (o=l[k].name)||leadsB l l[k].name o|_=>false))=true then 0 else 10:=by
 unfold svcAt
 rw[getD_cm hk]
 have e:∀ p,hasFile l (fun d=>decide (d.name=l[k].name)||leadsB l l[k].name d.name) p=(match lookF (entsL l) (1,p) with|some (.string o)=>decide (o=l[k].name)||leadsB l l[k].name o|_=>false):=fun p=>hasFile_look hn (fun o=>decide (o=l[k].name)||leadsB l l[k].name o) p
 simp only[e]
theorem near_any (l:List Cmp) (p:ByteArray):nearF (itemsL l) p=((entsL l).map Prod.fst).any fun t=>decide (t.1=1)&&(belowL (bs p) (bs t.2)||belowL (bs t.2) (bs p)):=by
 rw[entsL_fst,List.any_map]
 unfold nearF
 congr 1
 funext y
 show _=(decide (spotK y=1)&&(belowL (bs p) (bs (spotN y))||belowL (bs (spotN y)) (bs p)))
 by_cases h:spotK y=1
 ·have:spotN y=y.path:=by
   unfold spotK at h
   unfold spotN
   split at h
   ·cases h
   ·rename_i h5
    split at h
    ·cases h
    ·rename_i h6
     rw[if_neg h5,if_neg h6]
  rw[this]
 ·rw[decide_eq_false h];rfl
end
section
open Go.RowKit
theorem RdX.own {w:World} {B n:Nat} {v:Value} {l:List ByteArray} (h:w.ownsRow B 9 1 v n (l.map Value.string)) (hn:l.length=n):∃ A c,v=.slice A n c∧n<=c∧RdX w A l:=by
 rcases Nat.eq_zero_or_pos n with h0|h0
 ·subst h0
  obtain rfl:l=[]:=List.eq_nil_of_length_eq_zero hn
  rcases h.2 with ⟨rfl,_⟩|⟨g,cap,cur,rfl,_⟩
  ·exact⟨none,0,rfl,Nat.le_refl _,fun h=>absurd rfl h⟩
  ·exact⟨_,_,rfl,Nat.zero_le _,fun h=>absurd rfl h⟩
 ·obtain⟨g,c,rfl,_,_,hnc,hc⟩:=own_form h h0
  exact⟨_,_,rfl,hnc,fun _=>⟨g,0,rfl,fun k hk=>by
   rw[Nat.zero_add]
   exact hc k _ (by rw[List.getElem?_map,List.getElem?_eq_getElem hk];rfl)⟩⟩
set_option maxHeartbeats 2000000 in
theorem IndexX_nil (A:Option Addr) (c:Nat) (x:ByteArray) (w:World) :
 Calls Tryz.prog 186 #[.slice A 0 c,.string x] w fun e w'=>e=.returned (.int .i64 (-1))∧w=w':=by
 go_enter Tryz.func186,Tryz.ntmps186
 go_wp2
 go_loopw [8] (fun i wr=>i=.int .i64 0∧w=wr) (fun _ _=>0)
 case atStart=>exact⟨rfl,rfl⟩
 case round =>
  obtain⟨rfl,rfl⟩:=hrel
  go_wp2
  go_ret
  exact⟨rfl,rfl⟩
set_option maxHeartbeats 2000000 in
theorem ContainsXA_any (A:Option Addr) (n c:Nat) (v:List ByteArray) (x:ByteArray) (w:World) (hn:v.length=n) (hr:RdX w A v) (hl:n<=2097152) :
 Calls Tryz.prog 130 #[.slice A n c,.string x] w fun e w'=>e=.returned (.bool (memB x v))∧w=w':=by
 by_cases h0:v=[]
 ·subst h0
  obtain rfl:n=0:=hn.symm
  have CI:=Hy (fun W=>IndexX_nil A c x W)
  go_enter Tryz.func130,Tryz.ntmps130
  go_wp2_with fail
  refine (CI.out _).mono ?_
  rintro e w1 ⟨rfl,rfl⟩
  go_wp2
  go_ret
  exact⟨rfl,rfl⟩
 ·subst hn
  have:=ContainsX_any A c v.length v x w hr hl h0 (Nat.le_refl _)
  rwa [List.take_length] at this
def markK (l:List Cmp) (V:Nat->Bool) (k:Nat):List ByteArray:=(List.range k).flatMap fun i=>if V i=true then [(l.getD i zeroP).name] else []
def markL (l:List Cmp) (V:Nat->Bool):List ByteArray:=markK l V l.length
theorem markK_succ {l:List Cmp} {V:Nat->Bool} {k:Nat} (hk:k < l.length):markK l V (k+1)=markK l V k++if V k=true then [l[k].name] else []:=by
 unfold markK
 rw[List.range_succ,List.flatMap_append,<-getD_cm hk]
 simp
theorem markK_len (l:List Cmp) (V:Nat->Bool):∀ k,(markK l V k).length<=k
 | 0=>Nat.le_refl _
 | k+1=>by
   have:=markK_len l V k
   have e:markK l V (k+1)=markK l V k++if V k=true then [(l.getD k zeroP).name] else []:=by
    unfold markK
    rw[List.range_succ,List.flatMap_append]
    simp only[List.flatMap_cons,List.flatMap_nil,List.append_nil]
   rw[e,List.length_append]
   split<;>simp only[List.length_cons,List.length_nil]<;>omega
theorem markL_congr {l:List Cmp} {V U:Nat->Bool} (h:∀ i,i < l.length->V i=U i):markL l V=markL l U:=by
 unfold markL
 have:∀ k,k<=l.length->markK l V k=markK l U k:=fun k=>by
  induction k with
  | zero=>intro _;rfl
  | succ k ih =>
    intro hk
    rw[markK_succ (by omega),markK_succ (by omega),ih (by omega),h k (by omega)]
 exact this _ (Nat.le_refl _)
def alwK (l:List Cmp) (k:Nat):List ByteArray:=markK l (fun i=>(l.getD i zeroP).alw) k
def chAt (l:List Cmp) (ns:List ByteArray) (i:Nat):Int:=if isComp l (ns.getD i ⟨#[]⟩)=false then 10 else if memB (ns.getD i ⟨#[]⟩) (ns.take i)=true then 6 else 0
def chErr (l:List Cmp) (ns:List ByteArray):Int:=firstN ns.length (chAt l ns)
theorem chAt_at {l:List Cmp} {ns:List ByteArray} {i:Nat} (hi:i < ns.length):chAt l ns i=if isComp l ns[i]=false then 10 else if memB ns[i] (ns.take i)=true then 6 else 0:=by
 unfold chAt
 rw[show ns.getD i ⟨#[]⟩=ns[i] from by simp[List.getD,List.getElem?_eq_getElem hi]]
noncomputable def clsV (l:List Cmp) (ns:List ByteArray):Nat->Bool:=fun i=>hasB l (ns++alwK l l.length) (l.getD i zeroP).name
set_option maxHeartbeats 8000000 in
set_option maxRecDepth 100000 in
theorem marked_any (p:Pkg) (A:Option Addr) (c:Nat) (A2:Option Addr) (c2:Nat) (A3:Option Addr) (c3:Nat) (A4:Option Addr) (c4:Nat) (V:Nat->Bool) (g c':Nat) (w:World) (hr:RdC w A3 p.comps) (hl:p.comps.length<=2097152) (hb:Blk w g 4 (boolsA p.comps.length V)) :
 Calls Tryz.prog 126 #[pkV p A c A2 c2 A3 c3 A4 c4,.slice (some ⟨g,0,none⟩) p.comps.length c'] w fun e w'=>∃ A' cc,e=.returned (.slice A' (markL p.comps V).length cc)∧(markL p.comps V).length<=cc∧RdX w' A' (markL p.comps V)∧Ext w w':=by
 have HR:=Hy hr
 have HB:=Hy hb
 have HMS:=Hy (fun k=>markK_succ (l:=p.comps) (V:=V) (k:=k))
 have HML:=Hy (markK_len p.comps V)
 have hgl:=hb.lt
 clear hr hb
 obtain⟨pn,⟨v1,v2,v3,va⟩,pt,pe,pb,l,pm⟩:=p
 dsimp only[pkV] at *
 generalize pe.length=l1 at *
 generalize pb.length=l2 at *
 generalize pm.length=l4 at *
 have HFIN:=Hy (show markL l V=markK l V l.length from rfl)
 generalize markL l V=ML at *
 generalize hn:l.length=n at hl HB HFIN ⊢
 have HN:=Hy hn
 clear hn
 have b0:=Blk.new w 76 #[.string pn,.int .i64 v1,.int .i64 v2,.int .i64 v3,.string va,.string pt,.slice A l1 c,.slice A2 l2 c2,.slice A3 n c3,.slice A4 l4 c4]
 have hx0:Ext w (w.alloc (.cells #[.string pn,.int .i64 v1,.int .i64 v2,.int .i64 v3,.string va,.string pt,.slice A l1 c,.slice A2 l2 c2,.slice A3 n c3,.slice A4 l4 c4] 76)):=(Ext.refl w).alloc _
 have hs0:(w.alloc (.cells #[.string pn,.int .i64 v1,.int .i64 v2,.int .i64 v3,.string va,.string pt,.slice A l1 c,.slice A2 l2 c2,.slice A3 n c3,.slice A4 l4 c4] 76)).heap.size=w.heap.size+1:=World.size_alloc _ _
 generalize hW0:w.alloc (.cells #[.string pn,.int .i64 v1,.int .i64 v2,.int .i64 v3,.string va,.string pt,.slice A l1 c,.slice A2 l2 c2,.slice A3 n c3,.slice A4 l4 c4] 76)=W0 at *
 have HW0:=Hy hW0
 have e0:=b0.cell
 clear hW0
 go_enter Tryz.func126,Tryz.ntmps126
 go_wp2
 rw[HW0.out]
 go_loopw [5,11] (fun s i wr=>∃ k:Nat,k<=n∧i=.int .i64 k∧Hid (wr.ownsRow (w.heap.size+1) 9 1 s (markK l V k).length ((markK l V k).map Value.string))∧Ext W0 wr) (fun s i _=>n - (intOf i).toNat)
 case atStart=>exact⟨0,Nat.zero_le _,rfl,Hy (World.ownsRow_nil _ _ _ _),Ext.refl _⟩
 case round =>
  obtain⟨k,hk,rfl,HO,hxr⟩:=hrel
  obtain⟨wo,rfl⟩:∃ wo:World,wo=wr:=⟨_,rfl⟩
  have hB:=hxr.size
  rw[hs0] at hB
  have hxw:=hx0.trans hxr
  by_cases hlt:k < n
  ·have hk1:k < l.length:=by rw[HN.out];exact hlt
   obtain⟨b,o,rfl,hX⟩:=(HR.out.ext hxw) (fun e=>by rw[e] at hk1;exact absurd hk1 (Nat.not_lt_zero _))
   obtain⟨k0,n0,x0,A5,m5,c5,A6,c6,A7,c7,A8,c8,hrow⟩:=hX k hk1
   have LD:=load_Cm hrow
   have HT:=Hy (HMS.out k hk1)
   have hml:=HML.out k
   have hcv:=((HB.out.ext hxw).cell k).trans (boolsA_get hlt)
   have hgo:=lt_of_cell hcv
   clear hX hrow
   generalize l[k]=q at *
   obtain⟨qn,qt,qd,qa,qw,qe,qi,qs⟩:=q
   dsimp only[cmV] at *
   generalize qe.length=l6 at *
   generalize qi.length=l7 at *
   generalize qs.length=l8 at *
   generalize hMK:markK l V k=MK at *
   have hxa:Ext wo (wo.alloc (.cells #[.string qn,.string qt,.bool qd,.bool qa,.int .i64 k0,.string n0,.string x0,.slice A5 m5 c5,.slice A6 l6 c6,.slice A7 l7 c7,.slice A8 l8 c8] 82)):=(Ext.refl wo).alloc _
   cases hV:V k with
   | false =>
     rw[hV] at hcv
     have HO2:=Hy (show (wo.alloc (.cells #[.string qn,.string qt,.bool qd,.bool qa,.int .i64 k0,.string n0,.string x0,.slice A5 m5 c5,.slice A6 l6 c6,.slice A7 l7 c7,.slice A8 l8 c8] 82)).ownsRow (w.heap.size+1) 9 1 _ (markK l V (k+1)).length ((markK l V (k+1)).map Value.string) from by
      rw[HT.out,hV]
      simpa using own_ext HO.out hxa)
     go_wp2_with (refine wpList_load_at rfl _ _ rfl _ rfl _ LD ?_)
     go_roundw
     case rel=>exact⟨k+1,by omega,by go_num,HO2,hxr.trans hxa⟩
     case measure=>simp[intOf];omega
   | true =>
     rw[hV] at hcv
     have e1:=(Blk.new wo 82 #[.string qn,.string qt,.bool qd,.bool qa,.int .i64 k0,.string n0,.string x0,.slice A5 m5 c5,.slice A6 l6 c6,.slice A7 l7 c7,.slice A8 l8 c8]).cell
     have hown1:=own_ext HO.out hxa
     have hB1:w.heap.size+1<=(wo.alloc (.cells #[.string qn,.string qt,.bool qd,.bool qa,.int .i64 k0,.string n0,.string x0,.slice A5 m5 c5,.slice A6 l6 c6,.slice A7 l7 c7,.slice A8 l8 c8] 82)).heap.size:=Nat.le_trans hB hxa.size
     go_wp2_with (first|(refine wpList_load_at rfl _ _ rfl _ rfl _ LD ?_)|(at_builtin;refine wpList_app1g _ _ _ rfl _ _ 77 rfl (.string ⟨#[]⟩) 1 16 Tryz.underlying77 info_string rfl (by decide) (by decide) (w.heap.size+1) _ MK.length _ rfl hown1 _ _ rfl (by simp) rfl (by simp[Value.oneCell']) (by omega) hB1 ?_;intro v' w' hown' hgrow hblk))
     have HO2:=Hy (show w'.ownsRow (w.heap.size+1) 9 1 v' (markK l V (k+1)).length ((markK l V (k+1)).map Value.string) from by
      rw[HT.out,hV]
      simpa using hown')
     go_roundw
     case rel=>exact⟨k+1,by omega,by go_num,HO2,hgrow _ (hxr.trans hxa) (by rw[hs0];exact Nat.le_refl _)⟩
     case measure=>simp[intOf];omega
  ·obtain rfl:n=k:=by omega
   have hf:=HO.out
   rw[<-HFIN.out] at hf
   obtain⟨A',cc,rfl,hc,hrd⟩:=RdX.own hf rfl
   go_wp2
   go_ret
   exact⟨A',cc,rfl,hc,hrd,hxw⟩
end
section
open Go.RowKit
set_option maxHeartbeats 4000000 in
set_option maxRecDepth 100000 in
theorem chC_any (q:Cmp) (k:Int) (n x:ByteArray) (A2:Option Addr) (m c2:Nat) (A3:Option Addr) (c3:Nat) (A4:Option Addr) (c4:Nat) (A5:Option Addr) (c5:Nat) (g:Nat) (nm:ByteArray) (w:World) (hc:w.cell? ⟨g,0,none⟩=some (.string nm)) :
 Calls Tryz.prog 129 (#[cmV q k n x A2 m c2 A3 c3 A4 c4 A5 c5]++#[.pointer (some ⟨g,0,none⟩)]) w fun e w'=>e=.returned (.bool (decide (q.name=nm)))∧Ext w w':=by
 have hq:=dec_toL q.name nm
 generalize decide (q.name=nm)=D at *
 obtain⟨qn,qt,qd,qa,qw,qe,qi,qs⟩:=q
 dsimp only[cmV] at *
 generalize qe.length=l3 at *
 generalize qi.length=l4 at *
 generalize qs.length=l5 at *
 have hg:=lt_of_cell hc
 go_enter Tryz.func129,Tryz.ntmps129
 go_wp2
 go_ret
 exact⟨rfl,(Ext.refl w).alloc _⟩
set_option maxHeartbeats 16000000 in
set_option maxRecDepth 100000 in
theorem chosenFault_any (p:Pkg) (A:Option Addr) (c:Nat) (A2:Option Addr) (c2:Nat) (A3:Option Addr) (c3:Nat) (A4:Option Addr) (c4:Nat) (ns:List ByteArray) (An:Option Addr) (nn cn:Nat) (w:World) (hg:GoodN w) (hp:PkIn w p A c A2 c2 A3 c3 A4 c4) (hs:SmallP p) (hnn:ns.length=nn) (hcn:nn<=cn) (hrn:RdX w An ns) (hln:nn<=2097152) :
 Calls Tryz.prog 125 #[pkV p A c A2 c2 A3 c3 A4 c4,.slice An nn cn] w fun e w'=>e=.returned (.int .i64 (f2 (pkErr p) (chErr p.comps ns)))∧Ext w w':=by
 have CK:=Hy (fun W (h:Ext w W)=>PCheck_any p A c A2 c2 A3 c3 A4 c4 W (hg.ext h) (hp.ext h) hs)
 have HR:=Hy hp.comps
 have HRN:=Hy hrn
 have HNN:=Hy hnn
 have hcl:=hs.clen
 have HCA:=Hy (cmpAt_cases p.comps)
 have HAT:=Hy (fun i (hi:i < ns.length)=>chAt_at (l:=p.comps) hi)
 have HBAD:=Hy (fun k (hk:k < ns.length) h0 h=>firstN_at (n:=ns.length) (f:=chAt p.comps ns) (k:=k) hk h0 h)
 have HZ:=Hy (firstN_zero (n:=ns.length) (f:=chAt p.comps ns))
 obtain⟨E,hE⟩:∃ E,E=f2 (pkErr p) (chErr p.comps ns):=⟨_,rfl⟩
 rw[<-hE]
 have HE:=Hy (show E=f2 (pkErr p) (firstN ns.length (chAt p.comps ns)) from hE)
 clear hg hp hs hrn hE
 generalize pkErr p=PE at *
 obtain⟨pn,⟨v1,v2,v3,va⟩,pt,pe,pb,l,pm⟩:=p
 dsimp only[pkV] at *
 generalize pe.length=l1 at *
 generalize pb.length=l2 at *
 generalize pm.length=l4 at *
 generalize hn:l.length=n at CK hcl ⊢
 have HN:=Hy hn
 clear hn
 have b0:=Blk.new w 76 #[.string pn,.int .i64 v1,.int .i64 v2,.int .i64 v3,.string va,.string pt,.slice A l1 c,.slice A2 l2 c2,.slice A3 n c3,.slice A4 l4 c4]
 have hx0:Ext w (w.alloc (.cells #[.string pn,.int .i64 v1,.int .i64 v2,.int .i64 v3,.string va,.string pt,.slice A l1 c,.slice A2 l2 c2,.slice A3 n c3,.slice A4 l4 c4] 76)):=(Ext.refl w).alloc _
 generalize hW0:w.alloc (.cells #[.string pn,.int .i64 v1,.int .i64 v2,.int .i64 v3,.string va,.string pt,.slice A l1 c,.slice A2 l2 c2,.slice A3 n c3,.slice A4 l4 c4] 76)=W0 at *
 have HW0:=Hy hW0
 have e0:=b0.cell;have l0:=b0.lt
 clear hW0
 go_enter Tryz.func125,Tryz.ntmps125
 go_wp2_with fail
 rw[HW0.out]
 refine (CK.out _ hx0).mono ?_
 rintro e w1 ⟨rfl,hx1⟩
 have hx01:=hx0.trans hx1
 have b1:=b0.ext hx1
 clear e0 l0 b0
 by_cases hH:PE=0
 rotate_left
 ·have HEE:=Hy (show E=PE from by rw[HE.out];exact if_neg hH)
  have hne:(PE != 0)=true:=by rw[bne_iff_ne];exact hH
  clear hH
  go_wp2
  go_ret
  exact⟨ret_int HEE.out.symm,hx01⟩
 have HE1:=Hy (show E=firstN ns.length (chAt l ns) from by rw[HE.out,hH];rfl)
 clear HE CK
 subst hH
 go_wp2
 go_loopw [15] (fun i wr=>∃ k:Nat,k<=nn∧i=.int .i64 k∧Hid (∀ j,j < k->chAt l ns j=0)∧Ext w1 wr) (fun i _=>nn - (intOf i).toNat)
 case atStart=>exact⟨0,Nat.zero_le _,rfl,Hy (fun j h=>absurd h (Nat.not_lt_zero _)),Ext.refl _⟩
 case round =>
  obtain⟨k,hk,rfl,H0,hxr⟩:=hrel
  obtain⟨wo,rfl⟩:∃ wo:World,wo=wr:=⟨_,rfl⟩
  have hxw:=hx01.trans hxr
  by_cases hlt:k < nn
  ·have hk1:k < ns.length:=by rw[HNN.out];exact hlt
   obtain⟨bn,on,rfl,hXn⟩:=(HRN.out.ext hxw) (fun e=>by rw[e] at hk1;exact absurd hk1 (Nat.not_lt_zero _))
   have hC:=hXn k hk1
   have CA:=Hy (fun W (h:Ext wo W)=>at_any #[.string pn,.int .i64 v1,.int .i64 v2,.int .i64 v3,.string va,.string pt,.slice A l1 c,.slice A2 l2 c2,.slice A3 n c3,.slice A4 l4 c4] l A3 n c3 ns[k] W rfl rfl HN.out (HR.out.ext (hxw.trans h)) hcl)
   have CT:=Hy (fun W (h:Ext wo W)=>ContainsX_any (some ⟨bn,on,none⟩) cn k ns ns[k] W (HRN.out.ext (hxw.trans h)) (by rw[HNN.out];exact hln) (fun e=>by rw[e] at hk1;exact absurd hk1 (Nat.not_lt_zero _)) (by omega))
   have HV:=Hy (HAT.out k hk1)
   have HB:=Hy (show ¬ chAt l ns k=0->E=chAt l ns k from fun h=>by rw[HE1.out,HBAD.out k hk1 H0.out h])
   have HNX:=Hy (show chAt l ns k=0->∀ j,j < k+1->chAt l ns j=0 from firstN_next H0.out)
   have HCX:=Hy (HCA.out ns[k])
   have HCI:=Hy (show ∀ q (hq:q < l.length),l[q].name=ns[k]->isComp l ns[k]=true from fun q hq e=>by rw[<-e];exact isComp_at hq)
   have b2:=b1.ext hxr
   have e2:=b2.cell;have l2':=b2.lt
   have hkc:k<=cn:=by omega
   clear hXn
   generalize chAt l ns k=Z at *
   generalize memB ns[k] (ns.take k)=MB at *
   generalize ns[k]=x at *
   rcases HCX.out with ⟨q,hq,hck,hqn⟩|⟨hck,hno⟩
   ·have HIS:=Hy (HCI.out q hq hqn)
    rw[hck] at CA
    clear hqn
    have hq0:decide ((q:Int) < 0)=false:=decide_eq_false (by omega)
    go_wp2_with fail
    refine (CA.out _ (Ext.refl _)).mono ?_
    rintro e w2 ⟨rfl,hx2⟩
    clear e2 l2' hC
    go_wp2_with fail
    refine (CT.out _ hx2).mono ?_
    rintro e w' ⟨rfl,rfl⟩
    cases MB with
    | true =>
      have HEE:=Hy (show E=6 from by
       have hz:Z=6:=by rw[HV.out,HIS.out];rfl
       rw[HB.out (by rw[hz];decide),hz])
      go_wp2
      go_ret
      exact⟨ret_int HEE.out.symm,hxw.trans hx2⟩
    | false =>
      have HO:=Hy (HNX.out (by rw[HV.out,HIS.out];rfl))
      go_wp2
      go_roundw
      case rel=>exact⟨k+1,by omega,by go_num,HO,hxr.trans hx2⟩
      case measure=>simp[intOf];omega
   ·have HEE:=Hy (show E=10 from by
     have hz:Z=10:=by rw[HV.out,hno];rfl
     rw[HB.out (by rw[hz];decide),hz])
    rw[hck] at CA
    clear hno
    go_wp2_with fail
    refine (CA.out _ (Ext.refl _)).mono ?_
    rintro e w2 ⟨rfl,hx2⟩
    go_wp2
    go_ret
    exact⟨ret_int HEE.out.symm,hxw.trans hx2⟩
  ·obtain rfl:nn=k:=by omega
   have HEE:=Hy (show E=0 from by rw[HE1.out];exact HZ.out (fun j hj=>H0.out j (by rw[<-HNN.out];exact hj)))
   go_wp2
   go_ret
   exact⟨ret_int HEE.out.symm,hxw⟩
set_option maxHeartbeats 16000000 in
set_option maxRecDepth 100000 in
theorem ChosenError_any (p:Pkg) (A:Option Addr) (c:Nat) (A2:Option Addr) (c2:Nat) (A3:Option Addr) (c3:Nat) (A4:Option Addr) (c4:Nat) (ns:List ByteArray) (An:Option Addr) (nn cn:Nat) (w:World) (hr:RdC w A3 p.comps) (hl:p.comps.length<=2097152) (hnn:ns.length=nn) (hcn:nn<=cn) (hrn:RdX w An ns) (hln:nn<=2097152) :
 Calls Tryz.prog 51 #[pkV p A c A2 c2 A3 c3 A4 c4,.slice An nn cn] w fun e w'=>e=.returned (.int .i64 (chErr p.comps ns))∧Ext w w':=by
 have CB:=Hy (fun W g nm (h:Ext w W) (hc:W.cell? ⟨g,0,none⟩=some (.string nm))=>(show Calls Tryz.prog 128 #[.slice A3 p.comps.length c3,.func (.func 129) #[] #[.pointer (some ⟨g,0,none⟩)]] W fun e w'=>e=.returned (.bool (isComp p.comps nm))∧Ext W w' from
  ContainsCm_any 129 (fun _ _=>rfl) p.comps A3 p.comps.length c3 g nm W rfl (hr.ext h) hl hc (fun q kk n x A2 m c2 A3 c3 A4 c4 A5 c5 W' hW'=>chC_any q kk n x A2 m c2 A3 c3 A4 c4 A5 c5 g nm W' (hW'.cell hc))))
 have HRN:=Hy hrn
 have HNN:=Hy hnn
 have HAT:=Hy (fun i (hi:i < ns.length)=>chAt_at (l:=p.comps) hi)
 have HBAD:=Hy (fun k (hk:k < ns.length) h0 h=>firstN_at (n:=ns.length) (f:=chAt p.comps ns) (k:=k) hk h0 h)
 have HZ:=Hy (firstN_zero (n:=ns.length) (f:=chAt p.comps ns))
 obtain⟨E,hE⟩:∃ E,E=chErr p.comps ns:=⟨_,rfl⟩
 rw[<-hE]
 have HE1:=Hy (show E=firstN ns.length (chAt p.comps ns) from hE)
 clear hr hrn hE
 obtain⟨pn,⟨v1,v2,v3,va⟩,pt,pe,pb,l,pm⟩:=p
 dsimp only[pkV] at *
 generalize pe.length=l1 at *
 generalize pb.length=l2 at *
 generalize pm.length=l4 at *
 generalize l.length=n at *
 have b0:=Blk.new w 76 #[.string pn,.int .i64 v1,.int .i64 v2,.int .i64 v3,.string va,.string pt,.slice A l1 c,.slice A2 l2 c2,.slice A3 n c3,.slice A4 l4 c4]
 have hx0:Ext w (w.alloc (.cells #[.string pn,.int .i64 v1,.int .i64 v2,.int .i64 v3,.string va,.string pt,.slice A l1 c,.slice A2 l2 c2,.slice A3 n c3,.slice A4 l4 c4] 76)):=(Ext.refl w).alloc _
 generalize hW0:w.alloc (.cells #[.string pn,.int .i64 v1,.int .i64 v2,.int .i64 v3,.string va,.string pt,.slice A l1 c,.slice A2 l2 c2,.slice A3 n c3,.slice A4 l4 c4] 76)=W0 at *
 have HW0:=Hy hW0
 clear hW0
 go_enter Tryz.func51,Tryz.ntmps51
 go_wp2
 rw[HW0.out]
 go_loopw [9] (fun i wr=>∃ k:Nat,k<=nn∧i=.int .i64 k∧Hid (∀ j,j < k->chAt l ns j=0)∧Ext W0 wr) (fun i _=>nn - (intOf i).toNat)
 case atStart=>exact⟨0,Nat.zero_le _,rfl,Hy (fun j h=>absurd h (Nat.not_lt_zero _)),Ext.refl _⟩
 case round =>
  obtain⟨k,hk,rfl,H0,hxr⟩:=hrel
  obtain⟨wo,rfl⟩:∃ wo:World,wo=wr:=⟨_,rfl⟩
  have hxw:=hx0.trans hxr
  by_cases hlt:k < nn
  ·have hk1:k < ns.length:=by rw[HNN.out];exact hlt
   obtain⟨bn,on,rfl,hXn⟩:=(HRN.out.ext hxw) (fun e=>by rw[e] at hk1;exact absurd hk1 (Nat.not_lt_zero _))
   have hC:=hXn k hk1
   have hcl:=lt_of_cell hC
   have CT:=Hy (fun W (h:Ext wo W)=>ContainsX_any (some ⟨bn,on,none⟩) cn k ns ns[k] W (HRN.out.ext (hxw.trans h)) (by rw[HNN.out];exact hln) (fun e=>by rw[e] at hk1;exact absurd hk1 (Nat.not_lt_zero _)) (by omega))
   have HV:=Hy (HAT.out k hk1)
   have HB:=Hy (show ¬ chAt l ns k=0->E=chAt l ns k from fun h=>by rw[HE1.out,HBAD.out k hk1 H0.out h])
   have HNX:=Hy (show chAt l ns k=0->∀ j,j < k+1->chAt l ns j=0 from firstN_next H0.out)
   have b2:=b0.ext hxr
   have hkc:k<=cn:=by omega
   have b3:=Blk.new wo 9 #[.string ns[k]]
   have hxa:Ext wo (wo.alloc (.cells #[.string ns[k]] 9)):=(Ext.refl wo).alloc _
   have CBX:=Hy (fun W (h:Ext (wo.alloc (.cells #[.string ns[k]] 9)) W)=>CB.out W wo.heap.size ns[k] (hxw.trans (hxa.trans h)) (h.cell (b3.cell 0)))
   clear hXn
   generalize chAt l ns k=Z at *
   generalize memB ns[k] (ns.take k)=MB at *
   generalize isComp l ns[k]=D at *
   generalize ns[k]=x at *
   have e2:=b2.cell;have l2':=b2.lt
   go_wp2_with fail
   refine (CBX.out _ (Ext.refl _)).mono ?_
   rintro e w2 ⟨rfl,hx2⟩
   have hxo2:=hxa.trans hx2
   clear e2 l2' hC hcl
   cases D with
   | false =>
     have HEE:=Hy (show E=10 from by
      have hz:Z=10:=by rw[HV.out];rfl
      rw[HB.out (by rw[hz];decide),hz])
     go_wp2
     go_ret
     exact⟨ret_int HEE.out.symm,hxw.trans hxo2⟩
   | true =>
     have e4:=(b3.ext hx2).cell;have l4':=(b3.ext hx2).lt
     go_wp2
     refine wp_region_ext (by kernel_rfl) (by kernel_rfl) ?_
     repeat (first|go_big_quiet_skip|(refine wpQuiet_step (fun K hK=>?_);go_simp;first|(refine hK _ ?_;clear hK K)|(apply Exists.intro;refine⟨fun wq hwq=>?_,hK _ ?_⟩;(obtain⟨hqc,hqf⟩:=hwq.cells;have hqs:=hwq.size;(try go_simp);first|rfl|((first|rw[if_neg (by omega)]|rw[if_pos (by omega)]);(try go_simp);rfl)|((go_at_call 130;exact (CT.out _ (hxo2.trans hwq)).mono (fun e w'' h=>⟨h.1,h.2 ▸ hwq⟩))));clear hK K)))
     refine wpQuiet_nil ?_
     intro wN hxN
     obtain⟨hcN,hfN⟩:=hxN.cells
     have hsN:=hxN.size
     clear e4 l4' hcN hfN hsN
     cases MB with
     | true =>
       have HEE:=Hy (show E=6 from by
        have hz:Z=6:=by rw[HV.out];rfl
        rw[HB.out (by rw[hz];decide),hz])
       go_wp2
       go_ret
       exact⟨ret_int HEE.out.symm,hxw.trans (hxo2.trans hxN)⟩
     | false =>
       have HO:=Hy (HNX.out (by rw[HV.out];rfl))
       go_wp2
       go_roundw
       case rel=>exact⟨k+1,by omega,by go_num,HO,hxr.trans (hxo2.trans hxN)⟩
       case measure=>simp[intOf];omega
  ·obtain rfl:nn=k:=by omega
   have HEE:=Hy (show E=0 from by rw[HE1.out];exact HZ.out (fun j hj=>H0.out j (by rw[<-HNN.out];exact hj)))
   go_wp2
   go_ret
   exact⟨ret_int HEE.out.symm,hxw⟩
end
section
open Go.RowKit
theorem f2_eq0 {a b:Int} (h:f2 a b=0):a=0∧b=0:=by
 unfold f2 at h
 by_cases e:a=0
 ·rw[if_pos e] at h;exact⟨e,h⟩
 ·rw[if_neg e] at h;exact absurd h e
theorem pk_ok {p:Pkg} (h:pkErr p=0):p.comps.length<=30∧(p.comps.map Cmp.name).Nodup:=by
 have h1:=firstI_ne h
 have a:=h1 (headErr p) (by simp)
 have b:=h1 (firstN p.comps.length (cpAt p.comps)) (by simp)
 exact⟨(head_ok a).1,names_nd (firstN_ok b)⟩
set_option maxHeartbeats 16000000 in
set_option maxRecDepth 100000 in
theorem closed_any (p:Pkg) (A:Option Addr) (c:Nat) (A2:Option Addr) (c2:Nat) (A3:Option Addr) (c3:Nat) (A4:Option Addr) (c4:Nat) (ns:List ByteArray) (An:Option Addr) (nn cn:Nat) (w:World) (hr:RdC w A3 p.comps) (h30:p.comps.length<=30) (hnl:∀ c∈p.comps,c.needs.length<=2097152) (hnd:(p.comps.map Cmp.name).Nodup) (hnn:ns.length=nn) (hrn:RdX w An ns) (hln:nn<=2000000) :
 Calls Tryz.prog 127 #[pkV p A c A2 c2 A3 c3 A4 c4,.slice An nn cn] w fun e w'=>∃ g,e=.returned (.slice (some ⟨g,0,none⟩) p.comps.length p.comps.length)∧Blk w' g 4 (boolsA p.comps.length (clsV p.comps ns))∧Ext w w':=by
 have HR:=Hy hr
 have HRE:=Hy (fun W (h:Ext w W) ns An nn cn (hnn:ns.length=nn) (hrn:RdX W An ns) (hln:nn<=2097152)=>reach_any p A c A2 c2 A3 c3 A4 c4 ns An nn cn W (hr.ext h) h30 hnl hnd hnn hrn hln)
 have CCL:=Hy (fun W (h:Ext w W)=>CloneX_any ns An nn cn W hnn (hrn.ext h) (by omega))
 have HMS:=Hy (fun k=>markK_succ (l:=p.comps) (V:=fun i=>(p.comps.getD i zeroP).alw) (k:=k))
 have HML:=Hy (markK_len p.comps fun i=>(p.comps.getD i zeroP).alw)
 have HGA:=Hy (fun k (hk:k < p.comps.length)=>show (p.comps.getD k zeroP).alw=p.comps[k].alw from by rw[getD_cm hk])
 have HNN:=Hy hnn
 have HCV:=Hy (show clsV p.comps ns=fun i=>hasB p.comps (ns++markK p.comps (fun i=>(p.comps.getD i zeroP).alw) p.comps.length) (p.comps.getD i zeroP).name from rfl)
 clear hr hnl hnd hrn
 obtain⟨pn,⟨v1,v2,v3,va⟩,pt,pe,pb,l,pm⟩:=p
 dsimp only[pkV] at *
 generalize pe.length=l1 at *
 generalize pb.length=l2 at *
 generalize pm.length=l4 at *
 generalize clsV l ns=CV at *
 generalize hn:l.length=n at h30 HRE HCV ⊢
 have HN:=Hy hn
 clear hn
 generalize hVA:(fun i=>(l.getD i zeroP).alw)=VA at *
 have HVA:=Hy (show ∀ k,VA k=(l.getD k zeroP).alw from fun k=>by rw[<-hVA])
 have b0:=Blk.new w 76 #[.string pn,.int .i64 v1,.int .i64 v2,.int .i64 v3,.string va,.string pt,.slice A l1 c,.slice A2 l2 c2,.slice A3 n c3,.slice A4 l4 c4]
 have hx0:Ext w (w.alloc (.cells #[.string pn,.int .i64 v1,.int .i64 v2,.int .i64 v3,.string va,.string pt,.slice A l1 c,.slice A2 l2 c2,.slice A3 n c3,.slice A4 l4 c4] 76)):=(Ext.refl w).alloc _
 have hs0:(w.alloc (.cells #[.string pn,.int .i64 v1,.int .i64 v2,.int .i64 v3,.string va,.string pt,.slice A l1 c,.slice A2 l2 c2,.slice A3 n c3,.slice A4 l4 c4] 76)).heap.size=w.heap.size+1:=World.size_alloc _ _
 generalize hW0:w.alloc (.cells #[.string pn,.int .i64 v1,.int .i64 v2,.int .i64 v3,.string va,.string pt,.slice A l1 c,.slice A2 l2 c2,.slice A3 n c3,.slice A4 l4 c4] 76)=W0 at *
 have HW0:=Hy hW0
 have e0:=b0.cell;have l0:=b0.lt
 clear hW0 hVA
 go_enter Tryz.func127,Tryz.ntmps127
 go_wp2_with fail
 rw[HW0.out]
 refine (CCL.out _ hx0).mono ?_
 rintro e w1 ⟨v,rfl,hown,hx1⟩
 rw[hs0] at hown
 have hx01:=hx0.trans hx1
 have b1:=b0.ext hx1
 have HO0:=Hy (show w1.ownsRow (w.heap.size+1) 9 1 v (nn+(markK l VA 0).length) ((ns++markK l VA 0).map Value.string) from by simpa [markK] using hown)
 have e1:=b1.cell;have l1':=b1.lt
 have hs1:=hx1.size
 rw[hs0] at hs1
 clear e0 l0 b0 hown CCL
 go_wp2
 clear e1 l1'
 go_loopw [5,13] (fun s i wr=>∃ k:Nat,k<=n∧i=.int .i64 k∧Hid (wr.ownsRow (w.heap.size+1) 9 1 s (nn+(markK l VA k).length) ((ns++markK l VA k).map Value.string))∧Ext w wr∧Hid (Blk wr w.heap.size 76 #[.string pn,.int .i64 v1,.int .i64 v2,.int .i64 v3,.string va,.string pt,.slice A l1 c,.slice A2 l2 c2,.slice A3 n c3,.slice A4 l4 c4])∧w.heap.size+1<=wr.heap.size) (fun s i _=>n - (intOf i).toNat)
 case atStart=>exact⟨0,Nat.zero_le _,rfl,HO0,hx01,b1,hs1⟩
 case round =>
  obtain⟨k,hk,rfl,HO,hxw,B1,hB⟩:=hrel
  obtain⟨wo,rfl⟩:∃ wo:World,wo=wr:=⟨_,rfl⟩
  have hml:=HML.out k
  by_cases hlt:k < n
  ·have hk1:k < l.length:=by rw[HN.out];exact hlt
   obtain⟨b,o,rfl,hX⟩:=(HR.out.ext hxw) (fun e=>by rw[e] at hk1;exact absurd hk1 (Nat.not_lt_zero _))
   obtain⟨k0,n0,x0,A5,m5,c5,A6,c6,A7,c7,A8,c8,hrow⟩:=hX k hk1
   have LD:=load_Cm hrow
   have HT:=Hy (HMS.out k hk1)
   have HV:=Hy (show VA k=l[k].alw from by rw[HVA.out,HGA.out k hk1])
   clear hX hrow
   generalize l[k]=q at *
   obtain⟨qn,qt,qd,qa,qw,qe,qi,qs⟩:=q
   dsimp only[cmV] at *
   generalize qe.length=l6 at *
   generalize qi.length=l7 at *
   generalize qs.length=l8 at *
   generalize hMK:markK l VA k=MK at *
   have hxa:Ext wo (wo.alloc (.cells #[.string qn,.string qt,.bool qd,.bool qa,.int .i64 k0,.string n0,.string x0,.slice A5 m5 c5,.slice A6 l6 c6,.slice A7 l7 c7,.slice A8 l8 c8] 82)):=(Ext.refl wo).alloc _
   have bc:=Blk.new wo 82 #[.string qn,.string qt,.bool qd,.bool qa,.int .i64 k0,.string n0,.string x0,.slice A5 m5 c5,.slice A6 l6 c6,.slice A7 l7 c7,.slice A8 l8 c8]
   have e1:=bc.cell;have l1':=bc.lt
   cases qa with
   | false =>
     have HO2:=Hy (show (wo.alloc (.cells #[.string qn,.string qt,.bool qd,.bool false,.int .i64 k0,.string n0,.string x0,.slice A5 m5 c5,.slice A6 l6 c6,.slice A7 l7 c7,.slice A8 l8 c8] 82)).ownsRow (w.heap.size+1) 9 1 _ (nn+(markK l VA (k+1)).length) ((ns++markK l VA (k+1)).map Value.string) from by
      rw[HT.out,<-HVA.out,HV.out]
      simpa using own_ext HO.out hxa)
     go_wp2_with (refine wpList_load_at rfl _ _ rfl _ rfl _ LD ?_)
     go_roundw
     case rel=>exact⟨k+1,by omega,by go_num,HO2,hxw.trans hxa,B1.out.ext hxa,Nat.le_trans hB hxa.size⟩
     case measure=>simp[intOf];omega
   | true =>
     have hown1:=own_ext HO.out hxa
     have hB1:w.heap.size+1<=(wo.alloc (.cells #[.string qn,.string qt,.bool qd,.bool true,.int .i64 k0,.string n0,.string x0,.slice A5 m5 c5,.slice A6 l6 c6,.slice A7 l7 c7,.slice A8 l8 c8] 82)).heap.size:=Nat.le_trans hB hxa.size
     go_wp2_with (first|(refine wpList_load_at rfl _ _ rfl _ rfl _ LD ?_)|(at_builtin;refine wpList_app1g _ _ _ rfl _ _ 77 rfl (.string ⟨#[]⟩) 1 16 Tryz.underlying77 info_string rfl (by decide) (by decide) (w.heap.size+1) _ (nn+MK.length) _ rfl hown1 _ _ rfl (by simp) rfl (by simp[Value.oneCell']) (by omega) hB1 ?_;intro v' w' hown' hgrow hblk))
     have HO2:=Hy (show w'.ownsRow (w.heap.size+1) 9 1 v' (nn+(markK l VA (k+1)).length) ((ns++markK l VA (k+1)).map Value.string) from by
      rw[HT.out,<-HVA.out,HV.out,if_pos rfl,List.length_append,List.length_singleton,<-Nat.add_assoc,<-List.append_assoc,List.map_append]
      exact hown')
     have hB2:=hblk _ _ _ (B1.out.ext hxa) (by omega)
     have hB2l:=hB2.lt
     go_roundw
     case rel=>exact⟨k+1,by omega,by go_num,HO2,hgrow _ (hxw.trans hxa) (by omega),hB2,by omega⟩
     case measure=>simp[intOf];omega
  ·obtain rfl:n=k:=by omega
   obtain⟨AL,cL,rfl,hcL,hrdL⟩:=RdX.own HO.out (by rw[List.length_append,HNN.out])
   have CR:=Hy (fun W (h:Ext wo W)=>HRE.out W (hxw.trans h) (ns++markK l VA n) AL (nn+(markK l VA n).length) cL (by rw[List.length_append,HNN.out]) (hrdL.ext h) (by omega))
   rw[<-HCV.out] at CR
   have e1:=B1.out.cell;have l1':=B1.out.lt
   generalize nn+(markK l VA n).length=NL at *
   go_wp2_with fail
   refine (CR.out _ (Ext.refl _)).mono ?_
   rintro e w3 ⟨g,rfl,_,hB3,hx3⟩
   go_wp2
   go_ret
   exact⟨g,rfl,hB3,hxw.trans hx3⟩
end
section
open Go.RowKit
open Go.Maps (Keyed has)
set_option maxHeartbeats 16000000 in
set_option maxRecDepth 100000 in
theorem leads2_any (w0:World) (bA nA:Nat) (l:List Cmp) (a:ByteArray) (w:World) (hsz:∀ k,(needsOf l k).length<=2097152∧∀ x∈needsOf l k,x.size<=2097152) (ht:freeN l []<=2097152) (ha:a.size<=2097152) (hx0:Ext w0 w) (hm:NdMap w0 w bA nA l) :
 Calls Tryz.prog 115 #[.map (some bA),.string a] w fun e w'=>∃ (s N:Nat) (L:List ByteArray),e=.returned (.map (some s))∧w.heap.size<=s∧KSet w' s N (L.map bs)∧N<=2097152∧(∀ x,x∈L↔Leads l a x)∧Ext w w':=by
 have HW:=Hy (walkLd_any w0 w w.heap.size bA nA l hsz (freeN l []) a [] 0)
 have HAL:=Hy (fun L=>Dfs.all (l:=l) (a:=a) (L:=L))
 have hlt:=hm.lt
 have h00:=hx0.size
 let W1:=w.alloc (.cells #[.map (some bA)] 188)
 let W2:=W1.alloc (.map #[] 0)
 let W3:=W2.alloc (.cells #[.map (some (w.heap.size+1))] 191)
 let W4:=W3.alloc (.cells #[.func (.func 198) #[] (ldCaps w.heap.size)] 211)
 have s1:W1.heap.size=w.heap.size+1:=World.size_alloc _ _
 have s2:W2.heap.size=w.heap.size+2:=by rw[World.size_alloc,s1]
 have s3:W3.heap.size=w.heap.size+3:=by rw[World.size_alloc,s2]
 have HST:=Hy (show LdSt w0 w w.heap.size bA nA l 0 [] W4 from by
  have x1:Ext w W1:=(Ext.refl w).alloc _
  have x2:Ext W1 W2:=(Ext.refl W1).alloc _
  have x3:Ext W2 W3:=(Ext.refl W2).alloc _
  have x4:Ext W3 W4:=(Ext.refl W3).alloc _
  have hk:=KSet.made W1
  rw[s1] at hk
  have b3:=Blk.new W2 191 #[.map (some (w.heap.size+1))]
  rw[s2] at b3
  have b4:=Blk.new W3 211 #[.func (.func 198) #[] (ldCaps w.heap.size)]
  rw[s3] at b4
  have xx:=x1.trans (x2.trans (x3.trans x4))
  exact⟨(Blk.new w 188 #[.map (some bA)]).ext (x2.trans (x3.trans x4)),b3.ext x4,b4,hm.ext xx,hk.ext (x3.trans x4),hx0.trans xx,xx,h00,Nat.le_refl _,hlt⟩)
 have HC:=Hy (HW.out W4 (Nat.le_refl _) (Nat.le_refl _) (by simp;omega) ha HST.out)
 have hmm:=@run_makeMap Tryz.prog
 have c3:=HST.out.qS.cell;have l3:=HST.out.qS.lt;have c4:=HST.out.qW.cell;have l4:=HST.out.qW.lt
 clear hm hx0
 go_enter Tryz.func115,Tryz.ntmps115
 go_wp2_with fail
 refine HC.out.mono ?_
 rintro e w5 ⟨rfl,L',N',hd',hN',hs',hst'⟩
 have c5:=hst'.qS.cell;have l5:=hst'.qS.lt
 have HO:=Hy (HAL.out L' hd')
 have HST5:=Hy hst'
 clear c3 l3 c4 l4 hst' hd'
 go_wp2
 go_ret
 exact⟨w.heap.size+1,N',L',rfl,by omega,HST5.out.mS,by simp at hs';omega,HO.out,HST5.out.x1⟩
theorem needs_few {l:List Cmp} (h:(l.flatMap Cmp.needs).length<=2097152):freeN l []<=2097152:=by
 unfold freeN
 exact Nat.le_trans (List.length_filter_le _ _) h
theorem needs_each {l:List Cmp} (h:(l.flatMap Cmp.needs).length<=2097152):∀ c∈l,c.needs.length<=2097152:=fun c hc=>by
 obtain⟨s,t,rfl⟩:=List.append_of_mem hc
 rw[List.flatMap_append,List.flatMap_cons,List.length_append,List.length_append] at h
 omega
def ViewS (D:DataW PUnit) (L:List Str):Prop:=∀ s,(s∈L->has D (.string s)=true∧∀ z,D.atKey (.string s) z=.lit (.bool true))∧(s ∉ L->has D (.string s)=false)
noncomputable abbrev elemB:Value->Option (DataW PUnit × List MemPlace):=plainElem Tryz.prog 4
def RangeK (w:World) (b r n:Nat) (L:List Str) (left:Str->Bool) (cnt:Nat):Prop :=
 ∃ (D:DataW PUnit) (F:Lit->Bool),w.ranges Tryz.prog 9 elemB b r n D F cnt∧ViewS D L∧∀ s,F (.string s)=left s
namespace RangeK
variable {w w':World} {b r n cnt:Nat} {L:List Str} {left:Str->Bool}
theorem grown (h:RangeK w b r n L left cnt) {row:Option Nat} (hg:w.grownBy w' row) (hb:some b≠row) (hr:some r≠row):RangeK w' b r n L left cnt:=by
 obtain⟨D,F,h,v⟩:=h
 exact⟨D,F,h.kept hg hb hr,v⟩
theorem left_eq (h:RangeK w b r n L left cnt):w.rangeLeft b r=cnt:=by
 obtain⟨D,F,h,_⟩:=h
 exact h.left_eq
theorem cnt_le (h:RangeK w b r n L left cnt):cnt<=n:=by
 obtain⟨D,F,⟨es,clock,since,seen,c0,_,_,hs,_,_,_,hc,_⟩,_⟩:=h
 rw[<-hc]
 refine Nat.le_trans ?_ hs
 unfold Go.leftOf
 exact Array.size_filter_le
theorem ne (h:RangeK w b r n L left cnt):r≠b:=by
 obtain⟨D,F,h,_⟩:=h
 exact h.ne
theorem lt (h:RangeK w b r n L left cnt):r < w.heap.size:=by
 obtain⟨D,F,h,_⟩:=h
 exact h.lt
end RangeK
section
variable (w:World) {ops:Array Oper} {rest:List Oper} {o:Oper} {a:Act} {Q:Exit->Act->World->Prop}
theorem wp_range_k (hg:o.guard=none) (m:Operand) (t:TypeId) (hop:o.op=Op.range t m) (ht:Tryz.prog.underlying t=some (.map 9 4)) (b n:Nat) (L:List Str) (hm:a.eval m=.map (some b)) (h:KSet w b n L)
 (hK:∀ w' cnt,RangeK w' b w.heap.size n L (fun s=>decide (s∈L)) cnt->w.grownBy w' none->w'.heap.size=w.heap.size+1->wpList Tryz.prog ops Q rest (a.put o.dst (.pointer (some ⟨w.heap.size,0,none⟩))) w') :
 wpList Tryz.prog ops Q (o::rest) a w:=by
 obtain⟨D,h,v⟩:=h
 exact wpList_range_own w hg m t hop 9 4 str_keyed ht elemB b n D hm h fun w' h1 h2 h3=>hK w' _ ⟨D,_,h1,v,fun s=>by
  by_cases hs:s∈L
  ·exact ((v s).1 hs).1.trans (decide_eq_true hs).symm
  ·exact ((v s).2 hs).trans (decide_eq_false hs).symm⟩ h2 h3
theorem wp_next_k (hg:o.guard=none) (it:Operand) (hop:o.op=Op.next it false) (b r n:Nat) (L:List Str) (left:Str->Bool) (cnt:Nat) (hit:a.eval it=.pointer (some ⟨r,0,none⟩)) (h:RangeK w b r n L left cnt)
 (hDone:(∀ s,left s=false)->wpList Tryz.prog ops Q rest (a.put o.dst (.tuple #[.bool false])) w)
 (hMore:∀ (x:ByteArray) (c:Value) (w':World) (cnt':Nat),x.size<=maxLen->left (bs x)=true->bs x∈L->RangeK w' b r n L (fun z=>left z&&!(z==bs x)) cnt'->cnt' < cnt->w.grownBy w' (some r)->w'.heap.size=w.heap.size ->
   (Instr.entry (.pointer (some ⟨r,0,none⟩))).run Tryz.prog w'=.ok (.tuple #[.string x,c]) w'->wpList Tryz.prog ops Q rest (a.put o.dst (.tuple #[.bool true,.string x,c])) w') :
 wpList Tryz.prog ops Q (o::rest) a w:=by
 obtain⟨D,F,h,v,hL⟩:=h
 refine wpList_next_ranges w hg it hop 9 str_keyed elemB Value.string id
  (fun key kl hkey=>by obtain⟨x,e,_⟩:=Maps.keyOf_str str_under hkey;exact⟨_,e⟩) (fun u y _=>⟨u,rfl⟩)
  b r n D F cnt hit h (fun _ hl=>hDone fun s=>by rw[<-hL];exact hl _) fun x c kl y w' cnt' hkey hlk hv hat hrg hlt hgr hsz hen=>?_
 obtain⟨x',e1,rfl,hx⟩:=Maps.keyOf_str str_under hkey
 have ex:bs x=x':=by rw[Value.string.inj (e1:Value.string x=.string ⟨x'.toArray⟩)]
 subst ex
 have hin:bs x∈L:=by
  rcases Classical.em (bs x∈L) with h|h
  ·exact h
  ·have:=(v (bs x)).2 h
   rw[Maps.has_true_of_atKey hat] at this
   cases this
 refine hMore x c w' cnt' (by rw[<-bs_length];exact hx) (by rw[<-hL];exact hlk) hin ⟨D,_,hrg,v,fun s=>?_⟩ hlt hgr hsz hen
 show (F (.string s)&&!Lit.sameKey (.string s) (.string (bs x)))=_
 rw[hL];rfl
end
def selC (l:List Cmp) (ns:List ByteArray) (i:Nat):Bool:=(l.getD i zeroP).alw||memB (l.getD i zeroP).name ns
theorem markK_mem {l:List Cmp} {V:Nat->Bool} {k:Nat} {x:ByteArray}:x∈markK l V k↔∃ i,i < k∧V i=true∧x=(l.getD i zeroP).name:=by
 unfold markK
 rw[List.mem_flatMap]
 constructor
 ·rintro ⟨i,hi,hx⟩
  by_cases hv:V i=true
  ·rw[if_pos hv,List.mem_singleton] at hx
   exact⟨i,List.mem_range.1 hi,hv,hx⟩
  ·rw[if_neg hv] at hx;cases hx
 ·rintro ⟨i,hi,hv,rfl⟩
  exact⟨i,List.mem_range.2 hi,by rw[if_pos hv];simp⟩
def GatK (l:List Cmp) (sel:Nat->Bool) (k:Nat) (x:ByteArray):Prop:=∃ i,i < k∧sel i=true∧(x=(l.getD i zeroP).name∨Leads l (l.getD i zeroP).name x)
theorem GatK.skip {l:List Cmp} {sel:Nat->Bool} {k:Nat} (h:sel k=false) (x:ByteArray):GatK l sel (k+1) x↔GatK l sel k x:=by
 constructor
 ·rintro ⟨i,hi,hs,hx⟩
  refine⟨i,?_,hs,hx⟩
  rcases Nat.lt_or_ge i k with h1|h1
  ·exact h1
  ·obtain rfl:i=k:=by omega
   rw[h] at hs;cases hs
 ·rintro ⟨i,hi,hs,hx⟩
  exact⟨i,by omega,hs,hx⟩
theorem GatK.take {l:List Cmp} {sel:Nat->Bool} {k:Nat} (h:sel k=true) (x:ByteArray):GatK l sel (k+1) x↔GatK l sel k x∨x=(l.getD k zeroP).name∨Leads l (l.getD k zeroP).name x:=by
 constructor
 ·rintro ⟨i,hi,hs,hx⟩
  rcases Nat.lt_or_ge i k with h1|h1
  ·exact .inl ⟨i,h1,hs,hx⟩
  ·obtain rfl:i=k:=by omega
   exact .inr hx
 ·rintro (⟨i,hi,hs,hx⟩|hx)
  ·exact⟨i,by omega,hs,hx⟩
  ·exact⟨k,by omega,h,hx⟩
theorem gat_has {l:List Cmp} {sel:Nat->Bool} (x:ByteArray):GatK l sel l.length x↔Has l (markK l sel l.length) x:=by
 unfold Has
 constructor
 ·rintro ⟨i,hi,hs,rfl|hx⟩
  ·exact .inl (markK_mem.2 ⟨i,hi,hs,rfl⟩)
  ·exact .inr ⟨_,markK_mem.2 ⟨i,hi,hs,rfl⟩,hx⟩
 ·rintro (h|⟨a,h,hx⟩)
  ·obtain⟨i,hi,hs,rfl⟩:=markK_mem.1 h
   exact⟨i,hi,hs,.inl rfl⟩
  ·obtain⟨i,hi,hs,rfl⟩:=markK_mem.1 h
   exact⟨i,hi,hs,.inr hx⟩
theorem has_congr {l:List Cmp} {xs cs:List ByteArray} (h:∀ x,x∈xs↔x∈cs) (b:ByteArray):Has l xs b↔Has l cs b:=by
 unfold Has
 rw[h b]
 constructor
 ·rintro (h1|⟨a,ha,hl⟩)
  ·exact .inl h1
  ·exact .inr ⟨a,(h a).1 ha,hl⟩
 ·rintro (h1|⟨a,ha,hl⟩)
  ·exact .inl h1
  ·exact .inr ⟨a,(h a).2 ha,hl⟩
theorem isComp_iff {l:List Cmp} {x:ByteArray}:isComp l x=true↔∃ i,i < l.length∧(l.getD i zeroP).name=x:=by
 constructor
 ·intro h
  rcases cmpAt_cases l x with ⟨i,hi,_,e⟩|⟨_,hno⟩
  ·exact⟨i,hi,by rw[getD_cm hi];exact e⟩
  ·rw[hno] at h;cases h
 ·rintro ⟨i,hi,rfl⟩
  rw[getD_cm hi]
  exact isComp_at hi
theorem closedOf_eq {l:List Cmp} {ns:List ByteArray} (hch:∀ x∈ns,isComp l x=true) {M:List ByteArray} (hM:∀ x,x∈M↔GatK l (selC l ns) l.length x) (i:Nat):decide (bs (l.getD i zeroP).name∈M.map bs)=clsV l ns i:=by
 unfold clsV
 rw[Bool.eq_iff_iff,decide_eq_true_eq,mem_bs,hM,gat_has,hasB_iff]
 refine has_congr (fun x=>?_) _
 rw[List.mem_append]
 unfold alwK
 rw[markK_mem,markK_mem]
 constructor
 ·rintro ⟨j,hj,hs,rfl⟩
  unfold selC at hs
  rw[Bool.or_eq_true] at hs
  rcases hs with hs|hs
  ·exact .inr ⟨j,hj,hs,rfl⟩
  ·exact .inl (memB_iff.1 hs)
 ·rintro (h|⟨j,hj,hs,rfl⟩)
  ·obtain⟨j,hj,rfl⟩:=isComp_iff.1 (hch x h)
   exact⟨j,hj,by unfold selC;rw[memB_iff.2 h,Bool.or_true],rfl⟩
  ·exact⟨j,hj,by unfold selC;rw[hs];rfl,rfl⟩
theorem ch_comps {l:List Cmp} {ns:List ByteArray} (h:chErr l ns=0):∀ x∈ns,isComp l x=true:=fun x hx=>by
 obtain⟨j,hj,rfl⟩:=List.mem_iff_getElem.1 hx
 have h1:=firstN_ok h j hj
 rw[chAt_at hj] at h1
 cases e:isComp l ns[j] with
 | true=>rfl
 | false=>rw[e] at h1;cases h1
end
section
open Go.RowKit
structure AwSt (w0:World) (bP:Nat) (pc:Array Value) (bH:Nat) (hv:Array Value) (bO:Nat) (ov:Array Value) (w:World):Prop where
 p:Blk w bP 76 pc
 h:Blk w bH 4 hv
 o:Blk w bO 4 ov
 x:Ext w0 w
 n0:w0.heap.size<=bP
 n1:bP < bH
 n2:bH < bO
namespace AwSt
variable {w0 w w':World} {bP bH bO:Nat} {pc hv ov:Array Value}
theorem ext (h:AwSt w0 bP pc bH hv bO ov w) (hx:Ext w w'):AwSt w0 bP pc bH hv bO ov w':=⟨h.p.ext hx,h.h.ext hx,h.o.ext hx,h.x.trans hx,h.n0,h.n1,h.n2⟩
theorem set {n:Nat} {U:Nat->Bool} (h:AwSt w0 bP pc bH hv bO (boolsA n U) w) (k:Nat) (b:Bool):AwSt w0 bP pc bH hv bO (boolsA n fun i=>if i=k then b else U i) (w.setCell ⟨bO,k,none⟩ (.bool b)):=by
 have n0:=h.n0
 have n1:=h.n1
 have n2:=h.n2
 refine⟨h.p.far (by show bP≠bO;omega) _,h.h.far (by show bH≠bO;omega) _,?_,h.x.setCell (by show w0.heap.size<=bO;omega) _,n0,n1,n2⟩
 have hh:=h.o.set k (.bool b)
 rwa [boolsA_set] at hh
end AwSt
end
section
open Go.RowKit
theorem RowX.own {w:World} {B n:Nat} {v:Value} {l:List ByteArray} (h:w.ownsRow B 9 1 v n (l.map Value.string)) (hn:l.length=n):∃ A g c,v=.slice A n c∧n<=c∧(0 < n->A=some ⟨g,0,none⟩)∧B<=g∧RowX w g l∧(0 < n->g < w.heap.size):=by
 rcases Nat.eq_zero_or_pos n with h0|h0
 ·subst h0
  obtain rfl:l=[]:=List.eq_nil_of_length_eq_zero hn
  rcases h.2 with ⟨rfl,_⟩|⟨g,cap,cur,rfl,_⟩
  ·exact⟨none,B,0,rfl,Nat.le_refl _,fun h=>absurd h (Nat.lt_irrefl _),Nat.le_refl _,⟨fun k hk=>absurd hk (Nat.not_lt_zero _),fun k hk=>absurd hk (Nat.not_lt_zero _)⟩,fun h=>absurd h (Nat.lt_irrefl _)⟩
  ·exact⟨_,B,_,rfl,Nat.zero_le _,fun h=>absurd h (Nat.lt_irrefl _),Nat.le_refl _,⟨fun k hk=>absurd hk (Nat.not_lt_zero _),fun k hk=>absurd hk (Nat.not_lt_zero _)⟩,fun h=>absurd h (Nat.lt_irrefl _)⟩
 ·obtain⟨g,c,rfl,hg,hB,hnc,hc⟩:=own_form h h0
  exact⟨_,g,_,rfl,hnc,fun _=>rfl,hB,⟨fun k hk=>hc k _ (by rw[List.getElem?_map,List.getElem?_eq_getElem hk];rfl),fun t _=>h.frozenAt t⟩,fun _=>hg⟩
theorem ExtC.grown {w w':World} {g:Nat} (h:ExtC (·=g) w w'):w.grownBy w' (some g):=⟨h.os,h.tape,h.output,h.size,fun k hk hne=>h.block k hk (fun e=>hne (by rw[e]))⟩
theorem markK_name {l:List Cmp} (hnd:(l.map Cmp.name).Nodup) {V:Nat->Bool} {i:Nat} (hi:i < l.length):(l.getD i zeroP).name∈markK l V l.length↔V i=true:=by
 rw[markK_mem]
 constructor
 ·rintro ⟨j,hj,hv,e⟩
  rw[getD_cm hi,getD_cm hj] at e
  rw[name_inj hi hj hnd e]
  exact hv
 ·intro h
  exact⟨i,hi,h,rfl⟩
end
section
open Go.RowKit
theorem info_sto:(Tryz.prog.info? 108).map (fun i=>(i.zero,i.size,i.bytes))=some (some (.agg #[.int .i64 0,.string ⟨#[]⟩,.string ⟨#[]⟩]),3,40):=by kernel_rfl
end
section
open Go.RowKit
theorem pk_needs {p:Pkg} (h:pkErr p=0):∀ c∈p.comps,∀ x∈c.needs,isComp p.comps x=true:=fun c hc x hx=>by
 have h1:=firstI_ne h
 have a:=h1 (firstN p.comps.length (webAt p.comps)) (by simp)
 obtain⟨k,hk,rfl⟩:=List.mem_iff_getElem.1 hc
 have b:=firstN_ok a k hk
 unfold webAt at b
 rw[getD_cm hk] at b
 cases e:p.comps[k].needs.all (isComp p.comps) with
 | false=>rw[e,if_pos rfl] at b;cases b
 | true=>exact List.all_eq_true.1 e x hx
end
section
open Go.RowKit
def zPk (s:ByteArray):Pkg:=⟨s,⟨0,0,0,⟨#[]⟩⟩,⟨#[]⟩,[],[],[],[]⟩
theorem zPk_in (w:World) (s:ByteArray):PkIn w (zPk s) none 0 none 0 none 0 none 0 :=
 ⟨fun h=>absurd rfl h,fun h=>absurd rfl h,fun h=>absurd rfl h,fun h=>absurd rfl h,Nat.le_refl _,Nat.le_refl _,Nat.le_refl _,Nat.le_refl _⟩
theorem zPk_small {s:ByteArray} (h:s.size<=2097152):SmallP (zPk s) where
 name:=h
 vv:=Nat.zero_le _
 title:=Nat.zero_le _
 needs:=fun _ h=>by cases h
 nlen:=Nat.zero_le _
 bars:=fun _ h=>by cases h
 blen:=Nat.zero_le _
 comps:=fun _ h=>by cases h
 clen:=Nat.zero_le _
 moves:=fun _ h=>by cases h
 mlen:=Nat.zero_le _
 all:=Nat.zero_le _
 bytes:=Nat.zero_le _
theorem zPk_none:pkErr (zPk ⟨#[]⟩)=5:=by
 have h:headErr (zPk ⟨#[]⟩)=5:=by decide
 unfold pkErr
 rw[h]
 rfl
theorem zPk_a:pkErr (zPk ⟨#[97]⟩)=9:=by
 have h:headErr (zPk ⟨#[97]⟩)=9:=by decide
 unfold pkErr
 rw[h]
 rfl
set_option maxHeartbeats 8000000 in
set_option maxRecDepth 100000 in
theorem packs_any (w:World) (hg:GoodN w) :
 Calls Tryz.prog 47 #[] w fun e w'=>e=.returned (.bool true)∧Ext w w':=by
 have c1:=fun W (h:Ext w W)=>PCheck_any (zPk ⟨#[]⟩) none 0 none 0 none 0 none 0 W (hg.ext h) (zPk_in _ _) (zPk_small (by decide))
 have c2:=fun W (h:Ext w W)=>PCheck_any (zPk ⟨#[97]⟩) none 0 none 0 none 0 none 0 W (hg.ext h) (zPk_in _ _) (zPk_small (by decide))
 rw[zPk_none] at c1
 rw[zPk_a] at c2
 have C1:=Hy c1;have C2:=Hy c2
 clear c1 c2 hg
 go_enter Tryz.func47,Tryz.ntmps47
 go_wp2_with fail
 refine (C1.out _ (Ext.refl _)).mono ?_
 rintro e w1 ⟨rfl,hx1⟩
 go_wp2_with fail
 refine (C2.out _ hx1).mono ?_
 rintro e w2 ⟨rfl,hx2⟩
 go_wp2
 go_ret
 exact⟨rfl,hx1.trans hx2⟩
end
end Go.Proofs.YtmpccllnpcbgcaaGreatDoor
