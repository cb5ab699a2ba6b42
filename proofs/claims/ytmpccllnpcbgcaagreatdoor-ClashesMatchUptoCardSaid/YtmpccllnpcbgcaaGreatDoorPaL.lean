/- Items and steps of chosen components, in plain words. -/
import Derived.Test.YtmpccllnpcbgcaaGreatDoorPk02
import Derived.Test.YtmpccllnpcbgcaaGreatDoorPk04
import Derived.Test.YtmpccllnpcbgcaaGreatDoorPk08
import Derived.Test.YtmpccllnpcbgcaaGreatDoorPk19
import Derived.Test.YtmpccllnpcbgcaaGreatDoorPk22
import Derived.Test.YtmpccllnpcbgcaaGreatDoorPk25
import Derived.Test.YtmpccllnpcbgcaaGreatDoorPk27
import Derived.Test.YtmpccllnpcbgcaaGreatDoorPk29
import Derived.Test.YtmpccllnpcbgcaaGreatDoorPk30
import Derived.Test.YtmpccllnpcbgcaaGreatDoorPk34
import Derived.Test.YtmpccllnpcbgcaaGreatDoorPk35
import Derived.Test.YtmpccllnpcbgcaaGreatDoorProg
import Derived.Test.YtmpccllnpcbgcaaGreatDoorShelf
import Derived.Lib.Split
import Derived.Lib.IndexBytes
import Derived.Lib.ItoaLen
import Derived.WalkKit
import Derived.WalkSpells
import Derived.WalkLawsBesides
import Derived.LoopTactic
import Derived.Outline
import Derived.Lib.Hide
import Derived.Lib.LaidTab
import Derived.Lib.ConvBytes
import Derived.Lib.ItoaNum
import Derived.WalkSmall
import Derived.Sort.Grow
import Derived.Deep.QuietTactic
import Derived.BigQuiet
import Derived.Lib.Replace
import Derived.Lib.SplitLaws
import Derived.Laws.AppendOwn
import Derived.Laws.OwnMore
import Derived.Maps.AppendAt
import Derived.OwnWalk
import Derived.Lib.Join
import Derived.StillTail
import Derived.Lib.AtoiAll
import Derived.Lib.Small
import Derived.Lib.Bytealg
import Derived.Deep.DeepCutAuto
import Derived.Deep.AppendLies
import Derived.Deep.RegionHeld3
import Derived.Deep.RegionLaw
import Derived.MapKept
import Derived.Laws.StructEq
import Derived.Deep.LoopGhost
import Derived.Laws.Cells
import Derived.Maps.OwnSet
import Derived.Maps.StringElems
import Derived.Sort.Walk0
import Derived.Sort.KeysCollected
import Derived.Lib.SlicesCompact
import Derived.Maps.RangeWalk
import Derived.Deep.Upon
import Derived.ArgAppend
import Derived.Laws.MakeOwn
import Derived.DeepKeys3
namespace Go.Proofs.YtmpccllnpcbgcaaGreatDoor
open Go.RowKit
def itCmp (x y:Itm):Int:=if spotK x - spotK y=0 then Lib.compareBytes (bs (spotN x)) (bs (spotN y)) else spotK x - spotK y
theorem itCmp_first (x y:Itm):firstI [spotK x - spotK y,Lib.compareBytes (bs (spotN x)) (bs (spotN y))]=itCmp x y:=by
 unfold itCmp
 by_cases h:spotK x - spotK y=0<;>by_cases k:Lib.compareBytes (bs (spotN x)) (bs (spotN y))=0<;>simp[firstI,h,k]
theorem pre_it:Pre itCmp:=by
 have h1:Pre fun x y:Itm=>spotK x - spotK y:=⟨fun a b=>by constructor<;>intro h<;>omega,fun a b c h k=>by omega⟩
 exact h1.lex (pre_bytes.on fun x=>bs (spotN x))
theorem it_eq {x y:Itm} (h:itCmp x y=0):spotP x=spotP y:=by
 unfold itCmp at h
 by_cases e:spotK x - spotK y=0
 ·rw[if_pos e] at h
  have:=bs_inj (bytes_eq h)
  unfold spotP
  rw[this,show spotK x=spotK y by omega]
 ·rw[if_neg e] at h;exact absurd h e
theorem spot_bound (x:Itm):1<=spotK x∧spotK x<=3:=by
 unfold spotK
 split
 ·exact⟨by decide,by decide⟩
 ·split<;>exact⟨by decide,by decide⟩
theorem sorted_one {L:List Itm} (hn:(L.map spotP).Nodup):∀ {l1 l2:List Itm},l1.Perm l2->(∀ x∈l1,x∈L)->l1.Pairwise (fun x y=>itCmp x y<=0)->l2.Pairwise (fun x y=>itCmp x y<=0)->l1=l2:=by
 have inj:∀ x∈L,∀ y∈L,spotP x=spotP y->x=y:=by
  intro x hx y hy e
  obtain⟨i,hi,rfl⟩:=List.mem_iff_getElem.1 hx
  obtain⟨j,hj,rfl⟩:=List.mem_iff_getElem.1 hy
  have h:=List.pairwise_iff_getElem.1 hn
  rcases Nat.lt_trichotomy i j with h1|h1|h1
  ·have h2:=h i j (by simpa using hi) (by simpa using hj) h1
   rw[List.getElem_map,List.getElem_map] at h2
   exact absurd e h2
  ·subst h1;rfl
  ·have h2:=h j i (by simpa using hj) (by simpa using hi) h1
   rw[List.getElem_map,List.getElem_map] at h2
   exact absurd e.symm h2
 intro l1
 induction l1 with
 | nil=>intro l2 hp _ _ _;exact (List.nil_perm.1 hp).symm
 | cons x l1 ih =>
   intro l2 hp hm h1 h2
   match l2,hp,h2 with
   | [],hp,_=>exact absurd hp.symm (by simp)
   | y::l2,hp,h2 =>
     have hxy:x=y:=by
      have hx:x∈y::l2:=hp.mem_iff.1 (by simp)
      have hy:y∈x::l1:=hp.mem_iff.2 (by simp)
      have hyL:y∈L:=hm y hy
      have a:itCmp x y<=0:=by
       rcases List.mem_cons.1 hy with e|h
       ·rw[e,pre_it.self];exact Int.le_refl _
       ·exact (List.pairwise_cons.1 h1).1 y h
      have b:itCmp y x<=0:=by
       rcases List.mem_cons.1 hx with e|h
       ·rw[e,pre_it.self];exact Int.le_refl _
       ·exact (List.pairwise_cons.1 h2).1 x h
      have c:=pre_it.anti x y
      have d:=pre_it.anti y x
      exact inj x (hm x (by simp)) y hyL (it_eq (by omega))
     subst hxy
     rw[ih (List.perm_cons _ |>.1 hp) (fun z hz=>hm z (List.mem_cons_of_mem _ hz)) (List.pairwise_cons.1 h1).2 (List.pairwise_cons.1 h2).2]
def itemsK (l:List Cmp) (V:Nat->Bool) (k:Nat):List Itm:=(List.range k).flatMap fun i=>if V i=true then (l.getD i zeroP).items else []
theorem itemsK_succ {l:List Cmp} {V:Nat->Bool} {k:Nat} (hk:k < l.length):itemsK l V (k+1)=itemsK l V k++if V k=true then l[k].items else []:=by
 unfold itemsK
 rw[List.range_succ,List.flatMap_append,<-getD_cm hk]
 simp
theorem itemsK_sub (l:List Cmp) (V:Nat->Bool):∀ k,k<=l.length->(itemsK l V k).Sublist (itemsL (l.take k))
 | 0,_=>by simp[itemsK,itemsL]
 | k+1,hk=>by
   have ih:=itemsK_sub l V k (by omega)
   have e:itemsL (l.take (k+1))=itemsL (l.take k)++l[k].items:=by
    unfold itemsL
    rw[List.take_succ_eq_append_getElem (by omega),List.flatMap_append]
    simp
   rw[itemsK_succ (by omega),e]
   refine ih.append ?_
   split
   ·exact List.Sublist.refl _
   ·exact List.nil_sublist _
theorem itemsK_all (l:List Cmp) (V:Nat->Bool):(itemsK l V l.length).Sublist (itemsL l):=by
 have:=itemsK_sub l V l.length (Nat.le_refl _)
 rwa [List.take_length] at this
theorem itemsK_congr {l:List Cmp} {V U:Nat->Bool} (h:∀ i,i < l.length->V i=U i):∀ k,k<=l.length->itemsK l V k=itemsK l U k
 | 0,_=>rfl
 | k+1,hk=>by rw[itemsK_succ (by omega),itemsK_succ (by omega),itemsK_congr h k (by omega),h k (by omega)]
theorem spots_nodup {l:List Cmp} (h:twiceErr (itemsL l)=0):((itemsL l).map spotP).Nodup:=by
 have h:=firstN_ok h
 rw[List.Nodup,List.pairwise_iff_getElem]
 intro i j hi hj hij
 have hi':i < (itemsL l).length:=by simpa using hi
 have hj':j < (itemsL l).length:=by simpa using hj
 have h1:twiceAt (itemsL l) j=0:=h j hj'
 rw[twiceAt_eq hj'] at h1
 cases e:inP (spotP (itemsL l)[j]) (((itemsL l).take j).map spotP) with
 | true=>rw[if_pos e] at h1;cases h1
 | false =>
   rw[inP_no] at e
   intro hh
   refine e (List.mem_map.2 ⟨(itemsL l)[i],?_,by simpa using hh⟩)
   rw[List.mem_iff_getElem]
   exact⟨i,by rw[List.length_take];omega,by rw[List.getElem_take]⟩
def compN (l:List Cmp) (a:ByteArray):Cmp:=if cmpAt l a < 0 then zeroP else l.getD (cmpAt l a).toNat zeroP
def visS (l:List Cmp):Nat->ByteArray->List ByteArray × List Sto->List ByteArray × List Sto
 | 0,_,s=>s
 | n+1,a,s=>if memB a s.1=true then s else
    let r:=(compN l a).needs.foldl (fun s x=>visS l n x s) (s.1++[a],s.2)
    (r.1,r.2++(compN l a).steps)
def visF (l:List Cmp) (n:Nat) (ns:List ByteArray) (s:List ByteArray × List Sto):List ByteArray × List Sto:=ns.foldl (fun s x=>visS l n x s) s
theorem visF_succ (l:List Cmp) (n:Nat) (ns:List ByteArray) (s:List ByteArray × List Sto) {k:Nat} (hk:k < ns.length):visF l n (ns.take (k+1)) s=visS l n ns[k] (visF l n (ns.take k) s):=by
 unfold visF
 rw[List.take_succ_eq_append_getElem hk,List.foldl_append]
 rfl
theorem compN_at {l:List Cmp} {a:ByteArray} {k:Nat} (hk:k < l.length) (e:cmpAt l a=k):compN l a=l[k]:=by
 unfold compN
 rw[e,if_neg (by omega)]
 exact getD_cm hk
theorem compN_no {l:List Cmp} {a:ByteArray} (e:cmpAt l a=-1):compN l a=zeroP:=by
 unfold compN
 rw[e,if_pos (by decide)]
theorem compN_mem {l:List Cmp} {a:ByteArray} (h:isComp l a=true):∃ (k:Nat) (hk:k < l.length),cmpAt l a=k∧compN l a=l[k]∧l[k].name=a:=by
 rcases cmpAt_cases l a with ⟨k,hk,e,hn⟩|⟨_,e⟩
 ·exact⟨k,hk,e,compN_at hk e,hn⟩
 ·rw[e] at h;cases h
def frC (l:List Cmp) (M:List ByteArray):Nat:=l.countP fun c=>!memB c.name M
theorem frC_le (l:List Cmp) {M M':List ByteArray} (h:∀ x,x∈M->x∈M'):frC l M'<=frC l M:=by
 unfold frC
 refine List.countP_mono_left fun c _ hc=>?_
 rw[Bool.not_eq_true'] at hc ⊢
 cases e:memB c.name M with
 | false=>rfl
 | true =>
   have:=memB_iff.2 (h _ (memB_iff.1 e))
   rw[this] at hc;cases hc
theorem frC_mark {l:List Cmp} {M:List ByteArray} {a:ByteArray} (hc:isComp l a=true) (hm:memB a M=false):frC l (M++[a])+1<=frC l M:=by
 obtain⟨k,hk,_,_,hn⟩:=compN_mem hc
 have key:∀ l:List Cmp,(∃ c∈l,c.name=a)->frC l (M++[a])+1<=frC l M:=fun l=>by
  induction l with
  | nil=>rintro ⟨c,h,_⟩;cases h
  | cons d l ih =>
    intro h
    have h1:=frC_le l (M:=M) (M':=M++[a]) fun x hx=>List.mem_append.2 (.inl hx)
    unfold frC at *
    rw[List.countP_cons,List.countP_cons]
    by_cases e:d.name=a
    ·rw[e,hm]
     have h2:memB a (M++[a])=true:=memB_iff.2 (by simp)
     rw[h2]
     simp only[Bool.not_true,Bool.not_false,Bool.false_eq_true,if_false,if_true]
     omega
    ·have h3:=ih (by
      obtain⟨c,hc,hn⟩:=h
      rcases List.mem_cons.1 hc with rfl|hc
      ·exact absurd hn e
      ·exact⟨c,hc,hn⟩)
     have h4:memB d.name (M++[a])=memB d.name M:=by
      rw[Bool.eq_iff_iff,memB_iff,memB_iff]
      simp[e]
     rw[h4]
     split<;>omega
 exact key l ⟨l[k],List.getElem_mem hk,hn⟩
theorem vis_fold {l:List Cmp} {P:List ByteArray × List Sto->List ByteArray × List Sto->Prop} (h0:∀ s,P s s) (ht:∀ a b c,P a b->P b c->P a c) {f:ByteArray->List ByteArray × List Sto->List ByteArray × List Sto} (hf:∀ x s,P s (f x s)):∀ (ns:List ByteArray) (s:List ByteArray × List Sto),P s (ns.foldl (fun s x=>f x s) s)
 | [],s=>h0 s
 | x::ns,s=>by
   rw[List.foldl_cons]
   exact ht _ _ _ (hf x s) (vis_fold (l:=l) h0 ht hf ns _)
theorem vis_sub (l:List Cmp):∀ (n:Nat) (a:ByteArray) (s:List ByteArray × List Sto),∀ x,x∈s.1->x∈(visS l n a s).1
 | 0,_,_=>fun _ h=>h
 | n+1,a,s=>fun x hx=>by
   unfold visS
   split
   ·exact hx
   ·exact vis_fold (l:=l) (P:=fun s t=>∀ x,x∈s.1->x∈t.1) (fun _ _ h=>h) (fun _ _ _ h k x hx=>k x (h x hx)) (fun y s=>vis_sub l n y s) _ _ x (List.mem_append.2 (.inl hx))
theorem visF_sub (l:List Cmp) (n:Nat) (ns:List ByteArray) (s:List ByteArray × List Sto):∀ x,x∈s.1->x∈(visF l n ns s).1 :=
 vis_fold (l:=l) (P:=fun s t=>∀ x,x∈s.1->x∈t.1) (fun _ _ h=>h) (fun _ _ _ h k x hx=>k x (h x hx)) (fun y s=>vis_sub l n y s) ns s
theorem vis_len {l:List Cmp} {K:Nat} (h:∀ c∈l,c.steps.length<=K):∀ (n:Nat) (a:ByteArray) (s:List ByteArray × List Sto),(visS l n a s).2.length+frC l (visS l n a s).1 * K<=s.2.length+frC l s.1 * K
 | 0,_,_=>Nat.le_refl _
 | n+1,a,s=>by
   unfold visS
   split
   ·exact Nat.le_refl _
   ·rename_i hm
    have hm:memB a s.1=false:=by simpa using hm
    have hf:=vis_fold (l:=l) (P:=fun s t=>t.2.length+frC l t.1 * K<=s.2.length+frC l s.1 * K) (fun _=>Nat.le_refl _) (fun _ _ _ h k=>Nat.le_trans k h) (fun y s=>vis_len h n y s) (compN l a).needs (s.1++[a],s.2)
    dsimp only at hf ⊢
    generalize (compN l a).needs.foldl (fun s x=>visS l n x s) (s.1++[a],s.2)=r at *
    rw[List.length_append]
    rcases cmpAt_cases l a with ⟨k,hk,e,hn⟩|⟨e,_⟩
    ·have h1:=frC_mark (M:=s.1) (isComp_at hk |> (hn ▸ ·)) hm
     have h2:(compN l a).steps.length<=K:=by rw[compN_at hk e];exact h _ (List.getElem_mem hk)
     have h3:(frC l (s.1++[a])+1) * K<=frC l s.1 * K:=Nat.mul_le_mul_right _ h1
     rw[Nat.add_mul,Nat.one_mul] at h3
     omega
    ·have h1:=frC_le l (M:=s.1) (M':=s.1++[a]) fun x hx=>List.mem_append.2 (.inl hx)
     have h2:(compN l a).steps=[]:=by rw[compN_no e];rfl
     have h3:=Nat.mul_le_mul_right K h1
     rw[h2,List.length_nil]
     omega
theorem visF_len {l:List Cmp} {K:Nat} (h:∀ c∈l,c.steps.length<=K) (n:Nat) (ns:List ByteArray) (s:List ByteArray × List Sto):(visF l n ns s).2.length+frC l (visF l n ns s).1 * K<=s.2.length+frC l s.1 * K :=
 vis_fold (l:=l) (P:=fun s t=>t.2.length+frC l t.1 * K<=s.2.length+frC l s.1 * K) (fun _=>Nat.le_refl _) (fun _ _ _ h k=>Nat.le_trans k h) (fun y s=>vis_len h n y s) ns s
theorem visS_in {l:List Cmp} {n:Nat} {a:ByteArray} {s:List ByteArray × List Sto} (h:memB a s.1=true):visS l n a s=s:=by
 cases n with
 | zero=>rfl
 | succ n=>rw[visS,if_pos h]
theorem visS_new {l:List Cmp} {n:Nat} {a:ByteArray} {M:List ByteArray} {O:List Sto} (h:memB a M=false):visS l (n+1) a (M,O)=((visF l n (compN l a).needs (M++[a],O)).1,(visF l n (compN l a).needs (M++[a],O)).2++(compN l a).steps):=by
 rw[visS,if_neg (by rw[h];decide)]
 rfl
theorem frC_zero {l:List Cmp} {M:List ByteArray} {a:ByteArray} (h:frC l M=0) (hc:isComp l a=true):memB a M=true:=by
 cases e:memB a M with
 | true=>rfl
 | false=>have:=frC_mark hc e;omega
theorem frC_len (l:List Cmp) (M:List ByteArray):frC l M<=l.length:=List.countP_le_length
end Go.Proofs.YtmpccllnpcbgcaaGreatDoor
