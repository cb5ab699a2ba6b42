/- Packages in plain words: items, steps, needs, components, and their errors. The first of two errors. -/
import Derived.Test.YtmpccllnpcbgcaaGreatDoorPk18
namespace Go.Proofs.YtmpccllnpcbgcaaGreatDoor
section
open Go.RowKit
def firstN (n:Nat) (f:Nat->Int):Int:=firstI ((List.range n).map f)
theorem firstN_at {n:Nat} {f:Nat->Int} {k:Nat} (hk:k < n) (h0:∀ j,j < k->f j=0) (h:¬ f k=0):firstN n f=f k:=by
 have hl:k < ((List.range n).map f).length:=by simpa using hk
 have e:((List.range n).map f)[k]=f k:=by simp
 unfold firstN
 rw[firstI_at hl (fun x hx=>?_) (by rw[e];exact h),e]
 obtain⟨j,hj,rfl⟩:=List.mem_take_iff_getElem.1 hx
 have:j < k:=by omega
 simpa using h0 j this
theorem firstN_zero {n:Nat} {f:Nat->Int} (h0:∀ j,j < n->f j=0):firstN n f=0:=by
 unfold firstN
 refine firstI_zero fun x hx=>?_
 obtain⟨j,hj,rfl⟩:=List.mem_map.1 hx
 exact h0 j (List.mem_range.1 hj)
theorem firstN_ok {n:Nat} {f:Nat->Int} (h:firstN n f=0):∀ j,j < n->f j=0:=fun j hj=>by
 unfold firstN at h
 exact firstI_ne h _ (List.mem_map.2 ⟨j,List.mem_range.2 hj,rfl⟩)
theorem firstN_next {f:Nat->Int} {k:Nat} (h0:∀ j,j < k->f j=0) (h:f k=0):∀ j,j < k+1->f j=0:=fun j hj=>by
 rcases Nat.lt_or_ge j k with h1|h1
 ·exact h0 j h1
 ·obtain rfl:j=k:=by omega
  exact h
def memB (x:ByteArray) (l:List ByteArray):Bool:=l.any fun y=>decide (y=x)
theorem memB_iff {x:ByteArray} {l:List ByteArray}:memB x l=true↔x∈l:=by
 unfold memB
 rw[List.any_eq_true]
 exact⟨fun ⟨y,hy,h⟩=>by rw[decide_eq_true_eq] at h;subst h;exact hy,fun h=>⟨x,h,by simp⟩⟩
theorem memB_no {x:ByteArray} {l:List ByteArray}:memB x l=false↔x ∉ l:=by rw[<-memB_iff,Bool.not_eq_true]
structure Itm where
 kind:Int
 path:ByteArray
 data:ByteArray
 runs:Bool
 key:ByteArray
 val:ByteArray
 sn:ByteArray
 sp:ByteArray
 auto:Bool
 on:Bool
deriving DecidableEq
def zeroI:Itm:=⟨0,⟨#[]⟩,⟨#[]⟩,false,⟨#[]⟩,⟨#[]⟩,⟨#[]⟩,⟨#[]⟩,false,false⟩
def noF (x:Itm):Bool:=decide (x.path.size=0)&&decide (x.data.size=0)&&!x.runs
def noS (x:Itm):Bool:=decide (x.key.size=0)&&decide (x.val.size=0)
def noV (x:Itm):Bool:=decide (x.sn.size=0)&&decide (x.sp.size=0)&&!x.auto&&!x.on
def itErr (x:Itm):Int :=
 if x.kind < 1∨6 < x.kind then 1
 else if x.kind=5 then firstI [(if pathL (bs x.key)=true then 0 else 5),(if valueL (bs x.val)=true then 0 else 2),(if (noF x&&noV x)=true then 0 else 2)]
 else if x.kind=6 then firstI [(if (nameL (bs x.sn)&&pathL (bs x.sp))=true then 0 else 5),(if (noF x&&noS x&&!x.on)=true then 0 else 2)]
 else firstI [(if pathL (bs x.path)=true then 0 else 5),(if 65536 < x.data.size then 4 else 0),(if (noS x&&noV x)=true then 0 else 2)]
def spotK (x:Itm):Int:=if x.kind=5 then 2 else if x.kind=6 then 3 else 1
def spotN (x:Itm):ByteArray:=if x.kind=5 then x.key else if x.kind=6 then x.sn else x.path
def spotE (x y:Itm):Bool:=decide (spotK x=spotK y)&&decide (spotN x=spotN y)
structure Sto where
 kind:Int
 name:ByteArray
 val:ByteArray
deriving DecidableEq
abbrev wStage:Str:=[115,116,97,103,101]
abbrev wOutfit:Str:=[111,117,116,102,105,116]
def ownL (s:Str):Bool:=(s==wStage||belowL s wStage)||(s==wOutfit||belowL s wOutfit)
def stoErr (s:Sto):Int :=
 if s.kind < 1∨6 < s.kind then 1
 else if (if 5<=s.kind then nameL (bs s.name) else pathL (bs s.name))=false then 5
 else if (decide (s.kind=3)||decide (s.kind=4))&&ownL (bs s.name) then 17
 else if !valueL (bs s.val)||(decide (s.val.size≠0)&&!decide (s.kind=1)&&!decide (s.kind=3)) then 2 else 0
structure Ned where
 name:ByteArray
 fr:List Sp
def zeroN:Ned:=⟨⟨#[]⟩,[]⟩
def nedAt (own:ByteArray) (l:List Ned) (i:Nat):Int :=
 firstI [(if nameL (bs (l.getD i zeroN).name)=true then 0 else 5),(if (l.getD i zeroN).name=own then 13 else 0),(if (l.take i).any (fun m=>decide (m.name=(l.getD i zeroN).name))=true then 6 else 0),rngErr (l.getD i zeroN).fr]
def nedErr (own:ByteArray) (l:List Ned):Int:=firstN l.length (nedAt own l)
structure Cmp where
 name:ByteArray
 title:ByteArray
 dfl:Bool
 alw:Bool
 wh:Cd
 needs:List ByteArray
 items:List Itm
 steps:List Sto
def zeroP:Cmp:=⟨⟨#[]⟩,⟨#[]⟩,false,false,zeroC,[],[],[]⟩
def cnAt (own:ByteArray) (l:List ByteArray) (i:Nat):Int:=if l.getD i ⟨#[]⟩=own then 13 else if memB (l.getD i ⟨#[]⟩) (l.take i)=true then 6 else 0
def cnErr (c:Cmp):Int:=firstN c.needs.length (cnAt c.name c.needs)
def citErr (c:Cmp):Int:=firstN c.items.length fun i=>itErr (c.items.getD i zeroI)
def cstErr (c:Cmp):Int:=firstN c.steps.length fun i=>stoErr (c.steps.getD i ⟨0,⟨#[]⟩,⟨#[]⟩⟩)
def cpAt (l:List Cmp) (i:Nat):Int :=
 firstI [(if nameL (bs (l.getD i zeroP).name)=true then 0 else 5),(if (l.take i).any (fun d=>decide (d.name=(l.getD i zeroP).name))=true then 6 else 0),(if valueL (bs (l.getD i zeroP).title)=true then 0 else 2),checkC (l.getD i zeroP).wh,cnErr (l.getD i zeroP),citErr (l.getD i zeroP),cstErr (l.getD i zeroP)]
def needsOf (l:List Cmp) (n:ByteArray):List ByteArray:=match l.find? (fun c=>decide (c.name=n)) with|some c=>c.needs|none=>[]
def isComp (l:List Cmp) (n:ByteArray):Bool:=l.any fun c=>decide (c.name=n)
inductive Leads (l:List Cmp):ByteArray->ByteArray->Prop where
 | one {a b:ByteArray}:b∈needsOf l a->Leads l a b
 | more {a b c:ByteArray}:b∈needsOf l a->Leads l b c->Leads l a c
noncomputable def leadsB (l:List Cmp) (a b:ByteArray):Bool:=@decide (Leads l a b) (Classical.propDecidable _)
theorem leadsB_iff {l:List Cmp} {a b:ByteArray}:leadsB l a b=true↔Leads l a b:=by unfold leadsB;simp
def Has (l:List Cmp) (ns:List ByteArray) (b:ByteArray):Prop:=b∈ns∨∃ a∈ns,Leads l a b
noncomputable def hasB (l:List Cmp) (ns:List ByteArray) (b:ByteArray):Bool:=@decide (Has l ns b) (Classical.propDecidable _)
theorem hasB_iff {l:List Cmp} {ns:List ByteArray} {b:ByteArray}:hasB l ns b=true↔Has l ns b:=by unfold hasB;simp
theorem Leads.trans {l:List Cmp} {a b c:ByteArray} (h:Leads l a b) (k:Leads l b c):Leads l a c:=by
 induction h with
 | one h=>exact .more h k
 | more h _ ih=>exact .more h (ih k)
theorem Has.closed {l:List Cmp} {ns:List ByteArray} {S:ByteArray->Prop} (h0:∀ n∈ns,S n) (hs:∀ a b,S a->b∈needsOf l a->S b) {b:ByteArray} (h:Has l ns b):S b:=by
 have key:∀ a b,Leads l a b->S a->S b:=fun a b hl=>by
  induction hl with
  | one h=>exact fun ha=>hs _ _ ha h
  | more h _ ih=>exact fun ha=>ih (hs _ _ ha h)
 rcases h with h|⟨a,ha,hl⟩
 ·exact h0 b h
 ·exact key a b hl (h0 a ha)
theorem leads_needs {l:List Cmp} {a b:ByteArray}:Leads l a b↔Has l (needsOf l a) b:=by
 constructor
 ·intro h
  cases h with
  | one h=>exact .inl h
  | more h k=>exact .inr ⟨_,h,k⟩
 ·rintro (h|⟨c,h,k⟩)
  ·exact .one h
  ·exact .more h k
theorem needsOf_mem {l:List Cmp} {c:Cmp} (hm:c∈l) (hn:(l.map Cmp.name).Nodup):needsOf l c.name=c.needs:=by
 unfold needsOf
 induction l with
 | nil=>cases hm
 | cons d l ih =>
   rw[List.map_cons,List.nodup_cons] at hn
   rw[List.find?_cons]
   rcases List.mem_cons.1 hm with rfl|hm
   ·simp
   ·have hne:¬ d.name=c.name:=fun e=>hn.1 (by rw[e];exact List.mem_map_of_mem hm)
    rw[decide_eq_false hne]
    exact ih hm hn.2
theorem needsOf_none {l:List Cmp} {n:ByteArray} (h:isComp l n=false):needsOf l n=[]:=by
 unfold needsOf
 have:l.find? (fun c=>decide (c.name=n))=none:=by
  rw[List.find?_eq_none]
  unfold isComp at h
  rw[List.any_eq_false] at h
  exact h
 rw[this]
noncomputable def webAt (l:List Cmp) (i:Nat):Int :=
 if (l.getD i zeroP).needs.all (isComp l)=false then 10 else if leadsB l (l.getD i zeroP).name (l.getD i zeroP).name=true then 13 else 0
def itemsL (l:List Cmp):List Itm:=l.flatMap Cmp.items
def twiceErr (l:List Itm):Int:=firstN l.length fun i=>if (l.take i).any (spotE (l.getD i zeroI))=true then 6 else 0
def nearF (l:List Itm) (p:ByteArray):Bool:=l.any fun y=>decide (spotK y=1)&&(belowL (bs p) (bs y.path)||belowL (bs y.path) (bs p))
def fileAt (l:List Itm) (i:Nat):Int :=
 if spotK (l.getD i zeroI)≠1 then 0 else if nearF l (l.getD i zeroI).path=true then 11 else if ownL (bs (l.getD i zeroI).path)=true then 17 else 0
def hasFile (l:List Cmp) (f:Cmp->Bool) (p:ByteArray):Bool:=l.any fun d=>f d&&d.items.any fun y=>decide (spotK y=1)&&decide (y.path=p)
noncomputable def svcAt (l:List Cmp) (i:Nat):Int :=
 if (l.getD i zeroP).items.all (fun x=>!decide (x.kind=6)||hasFile l (fun d=>decide (d.name=(l.getD i zeroP).name)||leadsB l (l.getD i zeroP).name d.name) x.sp)=true then 0 else 10
noncomputable def placesErr (l:List Cmp):Int:=firstI [twiceErr (itemsL l),firstN (itemsL l).length (fileAt (itemsL l)),firstN l.length (svcAt l)]
def zeroM:Mv:=⟨[],⟨0,0,0,⟨#[]⟩⟩,[]⟩
def pmvAt (l:List Mv) (i:Nat):Int :=
 firstI [rngErr (l.getD i zeroM).fr,(l.getD i zeroM).tt.err,(if 100 < (l.getD i zeroM).rules.length then 4 else 0),(if (l.getD i zeroM).rules.all (fun s=>decide (s.size≠0)&&valueL (bs s))=true then 0 else 2)]
def pmvErr (l:List Mv):Int:=if 20 < l.length then 4 else firstN l.length (pmvAt l)
def bytesOf (l:List Itm):Nat:=(l.map fun x=>x.data.size).sum
structure Pkg where
 name:ByteArray
 vv:V4
 title:ByteArray
 needs:List Ned
 bars:List Ned
 comps:List Cmp
 moves:List Mv
def headErr (p:Pkg):Int :=
 firstI [(if nameL (bs p.name)=true then 0 else 5),p.vv.err,(if valueL (bs p.title)=true then 0 else 2),(if 20 < p.needs.length∨20 < p.bars.length then 4 else 0),nedErr p.name p.needs,nedErr p.name p.bars,(if p.comps.length=0 then 9 else 0),(if 30 < p.comps.length then 4 else 0)]
noncomputable def pkErr (p:Pkg):Int :=
 firstI [headErr p,firstN p.comps.length (cpAt p.comps),firstN p.comps.length (webAt p.comps),placesErr p.comps,pmvErr p.moves,(if 524288 < bytesOf (itemsL p.comps) then 4 else 0)]
end
section
open Go.RowKit
def f2 (a b:Int):Int:=if a=0 then b else a
theorem f2_assoc (a b c:Int):f2 (f2 a b) c=f2 a (f2 b c):=by
 unfold f2
 by_cases h:a=0<;>simp[h]
theorem firstI_f2 (a:Int) (l:List Int):firstI (a::l)=f2 a (firstI l):=rfl
theorem firstI_nil:firstI []=0:=rfl
theorem f2_zero (a:Int):f2 a 0=a:=by
 unfold f2
 by_cases h:a=0<;>simp[h]
theorem firstI_app (l m:List Int):firstI (l++m)=f2 (firstI l) (firstI m):=by
 induction l with
 | nil=>rfl
 | cons a l ih=>rw[List.cons_append,firstI_f2,ih,firstI_f2,f2_assoc]
theorem firstN_succ (n:Nat) (f:Nat->Int):firstN (n+1) f=f2 (firstN n f) (f n):=by
 unfold firstN
 rw[List.range_succ,List.map_append,firstI_app]
 simp only[List.map_cons,List.map_nil,firstI_f2,firstI,f2_zero]
end
end Go.Proofs.YtmpccllnpcbgcaaGreatDoor
