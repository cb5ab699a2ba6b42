/- What is installed under a name, and whether a pin bars a version: by the first of a row. What is installed, in a row's cells; slices.Clone over it; the machine and the offers while one follows the feed. Machines among the arguments. (Printed by gen/openo.py.) -/
import Derived.Test.YtmnafaaijglnfaaGreatDoorOm35
import Derived.Test.YtmnafaaijglnfaaGreatDoorOm28
namespace Go.Proofs.YtmnafaaijglnfaaGreatDoor
section
open Go.RowKit
theorem findF_cases (n:Nat) (p:Nat->Bool):(findF n p=-1∧∀ j,j < n->p j=false)∨∃ i,i < n∧findF n p=i∧p i=true∧∀ j,j < i->p j=false:=by
 by_cases h:∃ i,i < n∧p i=true
 ·-- the least
  obtain⟨i,hi,hp⟩:=h
  have key:∀ k,k<=n->(∃ i,i < k∧p i=true∧∀ j,j < i->p j=false)∨∀ j,j < k->p j=false:=by
   intro k
   induction k with
   | zero=>exact fun _=>.inr fun j hj=>absurd hj (Nat.not_lt_zero _)
   | succ k ih =>
     intro hk
     rcases ih (by omega) with ⟨i,h1,h2,h3⟩|h
     ·exact .inl ⟨i,by omega,h2,h3⟩
     ·cases hq:p k with
      | true=>exact .inl ⟨k,Nat.lt_succ_self _,hq,h⟩
      | false =>
        refine .inr fun j hj=>?_
        rcases Nat.lt_or_ge j k with h1|h1
        ·exact h j h1
        ·obtain rfl:j=k:=by omega
         exact hq
  rcases key n (Nat.le_refl _) with ⟨i,h1,h2,h3⟩|h
  ·exact .inr ⟨i,h1,findF_at h1 h3 h2,h2,h3⟩
  ·rw[h i hi] at hp;cases hp
 ·have h0:∀ j,j < n->p j=false:=fun j hj=>by
   cases hq:p j with
   | true=>exact absurd ⟨j,hj,hq⟩ h
   | false=>rfl
  exact .inl ⟨findF_none h0,h0⟩
theorem find_at {α:Type} {l:List α} {p:α->Bool} {i:Nat} (hi:i < l.length) (hp:p l[i]=true) (h0:∀ j (hj:j < i),p (l[j]'(by omega))=false):l.find? p=some l[i]:=by
 rw[List.find?_eq_some_iff_append]
 refine⟨hp,l.take i,l.drop (i+1),?_,fun a ha=>?_⟩
 ·rw[List.getElem_cons_drop,List.take_append_drop]
 ·obtain⟨j,hj,rfl⟩:=List.mem_iff_getElem.1 ha
  rw[List.length_take] at hj
  rw[List.getElem_take]
  rw[h0 j (by omega)];rfl
def insP (l:List Ins) (nm:ByteArray) (j:Nat):Bool:=(l.getD j zeroI).name.toList==nm.toList
def pinP (l:List Pin) (nm:ByteArray) (j:Nat):Bool:=(l.getD j zeroN).name.toList==nm.toList
theorem insP_at {l:List Ins} {nm:ByteArray} {j:Nat} (h:j < l.length):insP l nm j=(l[j].name.toList==nm.toList):=by
 unfold insP;simp[List.getD,List.getElem?_eq_getElem h]
theorem pinP_at {l:List Pin} {nm:ByteArray} {j:Nat} (h:j < l.length):pinP l nm j=(l[j].name.toList==nm.toList):=by
 unfold pinP;simp[List.getD,List.getElem?_eq_getElem h]
set_option maxRecDepth 100000 in
theorem IndexIns_any (l:List Ins) (A:Option Addr) (n c:Nat) (f:FuncId) (g:Nat) (nm:ByteArray) (w:World) (hn:l.length=n) (hr:RdIns w A l) (hl:n<=2097152) (hen:∀ xs w,Sem.run Tryz.prog (callFunc f xs) w=.ok (.enter f xs) w)
 (hcl:∀ x A1 m c1 b W,Ext w W->Calls Tryz.prog f #[insV x A1 m c1 b,.pointer (some ⟨g,0,none⟩)] W fun e w'=>e=.returned (.bool (x.name.toList==nm.toList))∧Ext W w') :
 Calls Tryz.prog 133 #[.slice A n c,.func (.func f) #[] #[.pointer (some ⟨g,0,none⟩)]] w fun e w'=>e=.returned (.int .i64 (findF n (insP l nm)))∧Ext w w':=by
 rcases Nat.eq_zero_or_pos n with h0|h0
 ·exact IndexFuncIn_any A n c 0 0 f _ _ w (fun h=>by omega) hl hen (fun k hk=>by omega)
 ·obtain⟨b,o,e,hX⟩:=hr (fun e=>by rw[e] at hn;simp at hn;omega)
  refine IndexFuncIn_any A n c b o f _ _ w (fun _=>e) hl hen (fun k hk=>?_)
  have hk1:k < l.length:=by omega
  obtain⟨A1,m,c1,wt,h⟩:=hX k hk1
  refine⟨_,fun W hw=>(h.ext hw).load,fun W hw=>?_⟩
  rw[insP_at hk1]
  exact hcl l[k] A1 m c1 wt W hw
set_option maxRecDepth 100000 in
theorem IndexPin_any (l:List Pin) (A:Option Addr) (n c:Nat) (f:FuncId) (g:Nat) (nm:ByteArray) (w:World) (hn:l.length=n) (hr:RdPin w A l) (hl:n<=2097152) (hen:∀ xs w,Sem.run Tryz.prog (callFunc f xs) w=.ok (.enter f xs) w)
 (hcl:∀ x A1 c1 W,Ext w W->Calls Tryz.prog f #[pinV x A1 c1,.pointer (some ⟨g,0,none⟩)] W fun e w'=>e=.returned (.bool (x.name.toList==nm.toList))∧Ext W w') :
 Calls Tryz.prog 200 #[.slice A n c,.func (.func f) #[] #[.pointer (some ⟨g,0,none⟩)]] w fun e w'=>e=.returned (.int .i64 (findF n (pinP l nm)))∧Ext w w':=by
 rcases Nat.eq_zero_or_pos n with h0|h0
 ·exact IndexFuncPn_any A n c 0 0 f _ _ w (fun h=>by omega) hl hen (fun k hk=>by omega)
 ·obtain⟨b,o,e,hX⟩:=hr (fun e=>by rw[e] at hn;simp at hn;omega)
  refine IndexFuncPn_any A n c b o f _ _ w (fun _=>e) hl hen (fun k hk=>?_)
  have hk1:k < l.length:=by omega
  obtain⟨A1,c1,h⟩:=hX k hk1
  refine⟨_,fun W hw=>(h.ext hw).load,fun W hw=>?_⟩
  rw[pinP_at hk1]
  exact hcl l[k] A1 c1 W hw
theorem was_cases (l:List Ins) (nm:ByteArray):(findF l.length (insP l nm)=-1∧wasL l nm.toList=none)∨∃ i,∃ h:i < l.length,findF l.length (insP l nm)=i∧wasL l nm.toList=some l[i].vv:=by
 rcases findF_cases l.length (insP l nm) with ⟨h1,h2⟩|⟨i,hi,h1,h2,h3⟩
 ·refine .inl ⟨h1,?_⟩
  unfold wasL
  have:l.find? (fun x=>x.name.toList==nm.toList)=none:=by
   rw[List.find?_eq_none]
   intro x hx
   obtain⟨j,hj,rfl⟩:=List.mem_iff_getElem.1 hx
   have:=h2 j hj
   rw[insP_at hj] at this
   rw[this];decide
  rw[this];rfl
 ·refine .inr ⟨i,hi,h1,?_⟩
  unfold wasL
  rw[find_at hi (by rw[<-insP_at hi];exact h2) (fun j hj=>by rw[<-insP_at (by omega)];exact h3 j hj)]
  rfl
theorem pin_two {l:List Pin} (h:pinErr l=0) {i j:Nat} (hj:j < l.length) (hij:i < j):(l[i]'(by omega)).name.toList≠l[j].name.toList:=by
 intro e
 have h1:=firstI_allO h (pinAt l j) (by
  have hk:j < (pinErrs l).length:=by rw[pinErrs_length];exact hj
  rw[<-pinErrs_get l j hk];exact List.getElem_mem hk)
 unfold pinAt at h1
 have h2:=firstI_allO h1 (if pinTwice l j=true then 6 else 0) (by simp)
 have h3:pinTwice l j=true:=by
  unfold pinTwice
  rw[List.any_eq_true]
  refine⟨l[i]'(by omega),?_,?_⟩
  ·rw[List.mem_take_iff_getElem];exact⟨i,by omega,rfl⟩
  ·simp[List.getD,List.getElem?_eq_getElem hj,e]
 rw[if_pos h3] at h2
 cases h2
theorem bar_cases {l:List Pin} (h:pinErr l=0) (nm:ByteArray) (v:V4):(findF l.length (pinP l nm)=-1∧barL l nm.toList v=false)∨∃ i,∃ h:i < l.length,findF l.length (pinP l nm)=i∧barL l nm.toList v=!hasL l[i].fr v:=by
 rcases findF_cases l.length (pinP l nm) with ⟨h1,h2⟩|⟨i,hi,h1,h2,h3⟩
 ·refine .inl ⟨h1,?_⟩
  unfold barL
  rw[List.any_eq_false]
  intro x hx
  obtain⟨j,hj,rfl⟩:=List.mem_iff_getElem.1 hx
  have:=h2 j hj
  rw[pinP_at hj] at this
  rw[this];simp
 ·refine .inr ⟨i,hi,h1,?_⟩
  rw[pinP_at hi] at h2
  unfold barL
  cases hh:hasL l[i].fr v with
  | false =>
    rw[Bool.not_false,List.any_eq_true]
    exact⟨l[i],List.getElem_mem hi,by rw[h2,hh];rfl⟩
  | true =>
    rw[Bool.not_true,List.any_eq_false]
    intro x hx
    obtain⟨j,hj,rfl⟩:=List.mem_iff_getElem.1 hx
    by_cases hji:j=i
    ·subst hji;rw[hh];simp
    ·have hne:(l[j].name.toList==nm.toList)=false:=by
      rw[beq_eq_false_iff_ne]
      intro e
      have e2:l[i].name.toList=nm.toList:=by simpa using h2
      rcases Nat.lt_or_gt_of_ne hji with h4|h4
      ·exact pin_two h hi h4 (e.trans e2.symm)
      ·exact pin_two h hj h4 (e2.trans e.symm)
     rw[hne];simp
theorem was_casesN (l:List Ins) (n:Nat) (hn:l.length=n) (nm:ByteArray):(findF n (insP l nm)=-1∧wasL l nm.toList=none)∨∃ i,∃ h:i < l.length,findF n (insP l nm)=i∧wasL l nm.toList=some l[i].vv:=by
 subst hn;exact was_cases l nm
theorem bar_casesN {l:List Pin} (n:Nat) (hn:l.length=n) (h:pinErr l=0) (nm:ByteArray) (v:V4):(findF n (pinP l nm)=-1∧barL l nm.toList v=false)∨∃ i,∃ h:i < l.length,findF n (pinP l nm)=i∧barL l nm.toList v=!hasL l[i].fr v:=by
 subst hn;exact bar_cases h nm v
theorem mac_parts {m:Mac} (h:macErr m=0):nameL (bs m.name)=true∧insErr m.inst=0∧seErr nameL m.facts=0∧seErr pathL m.sets=0∧pinErr m.pins=0:=by
 have hh:=firstI_allO h
 simp only[List.mem_cons,List.not_mem_nil,or_false,forall_eq_or_imp,forall_eq] at hh
 obtain⟨h1,h2,h3,h4,h5⟩:=hh
 refine⟨?_,h2,h3,h4,h5⟩
 cases hn:nameL (bs m.name) with
 | true=>rfl
 | false=>unfold nmErr at h1;rw[hn] at h1;cases h1
theorem ins_ok {l:List Ins} (h:insErr l=0) {i:Nat} (hi:i < l.length):l[i].vv.err=0:=by
 have h1:=firstI_allO h (insAt l i) (by
  have hk:i < (insErrs l).length:=by rw[insErrs_length];exact hi
  rw[<-insErrs_get l i hk];exact List.getElem_mem hk)
 rw[insAt_get hi] at h1
 exact firstI_allO h1 l[i].vv.err (by simp)
theorem pin_ok {l:List Pin} (h:pinErr l=0) {i:Nat} (hi:i < l.length):rngErr l[i].fr=0:=by
 have h1:=firstI_allO h (pinAt l i) (by
  have hk:i < (pinErrs l).length:=by rw[pinErrs_length];exact hi
  rw[<-pinErrs_get l i hk];exact List.getElem_mem hk)
 rw[pinAt_get hi] at h1
 exact firstI_allO h1 (rngErr l[i].fr) (by simp)
structure MacOk (m:Mac):Prop where
 name:nameL (bs m.name)=true
 inst:∀ i (h:i < m.inst.length),m.inst[i].vv.err=0
 facts:seErr nameL m.facts=0
 sets:seErr pathL m.sets=0
 pins:pinErr m.pins=0
theorem MacOk.of {m:Mac} (h:macErr m=0):MacOk m:=by
 obtain⟨q1,q2,q3,q4,q5⟩:=mac_parts h
 exact⟨q1,fun i hi=>ins_ok q2 hi,q3,q4,q5⟩
end
section
open Go.RowKit
def InsIn:List Ins->List Value->Prop
 | [],xs=>xs=[]
 | x::l,xs=>∃ A m c b ys,xs=insC x A m c b++ys∧InsIn l ys
theorem InsIn.length:∀ {l:List Ins} {xs:List Value},InsIn l xs->xs.length=l.length * 7
 | [],xs,h=>by rw[show xs=[] from h];rfl
 | x::l,xs,h=>by
   obtain⟨A,m,c,b,ys,rfl,h⟩:=h
   rw[List.length_append,show (insC x A m c b).length=7 from rfl,h.length,List.length_cons]
   omega
theorem InsIn.at_:∀ {l:List Ins} {xs:List Value},InsIn l xs->∀ j (hj:j < l.length),∃ A m c b,∀ i u,(insC l[j] A m c b)[i]?=some u->xs[j * 7+i]?=some u
 | [],_,_,j,hj=>absurd hj (Nat.not_lt_zero _)
 | x::l,xs,h,j,hj=>by
   obtain⟨A,m,c,b,ys,rfl,h⟩:=h
   cases j with
   | zero =>
     refine⟨A,m,c,b,fun i u hu=>?_⟩
     have hlt:i < (insC x A m c b).length:=(List.getElem?_eq_some_iff.1 hu).1
     rw[Nat.zero_mul,Nat.zero_add,List.getElem?_append_left hlt]
     exact hu
   | succ j =>
     obtain⟨A',m',c',b',h'⟩:=h.at_ j (by simpa using hj)
     refine⟨A',m',c',b',fun i u hu=>?_⟩
     have he:(insC x A m c b).length=7:=rfl
     rw[List.getElem?_append_right (by rw[he];omega),he,show (j+1) * 7+i - 7=j * 7+i by omega]
     exact h' i u hu
theorem InsIn.rd {w:World} {l:List Ins} {xs:List Value} {g:Nat} (h:InsIn l xs) (hc:∀ j u,xs[j]?=some u->w.cell? ⟨g,j,none⟩=some u):RdIns w (some ⟨g,0,none⟩) l:=fun _=>by
 refine⟨g,0,rfl,fun j hj=>?_⟩
 obtain⟨A,m,c,b,hx⟩:=h.at_ j hj
 refine⟨A,m,c,b,fun i u hu=>?_⟩
 rw[Nat.zero_add]
 exact hc _ _ (hx i u hu)
theorem InsIn.ins {x:Ins} {A:Option Addr} {m c:Nat} {b:Bool}:∀ {l:List Ins} {xs:List Value} (i:Nat),i<=l.length->InsIn l xs->InsIn (l.take i++x::l.drop i) (xs.take (i * 7)++insC x A m c b++xs.drop (i * 7))
 | l,xs,0,_,h=>by
   rw[Nat.zero_mul,List.take_zero,List.take_zero,List.nil_append,List.nil_append,List.drop_zero,List.drop_zero]
   exact⟨A,m,c,b,xs,rfl,h⟩
 | [],_,i+1,hi,_=>absurd hi (by simp)
 | p::l,xs,i+1,hi,h=>by
   obtain⟨A',m',c',b',ys,rfl,h⟩:=h
   have ih:=InsIn.ins (x:=x) (A:=A) (m:=m) (c:=c) (b:=b) i (by simpa using hi) h
   have he:(insC p A' m' c' b').length=7:=rfl
   refine⟨A',m',c',b',_,?_,ih⟩
   rw[show (i+1) * 7=7+i * 7 by omega,List.take_append,List.drop_append,he,show 7+i * 7 - 7=i * 7 by omega,List.take_of_length_le (by omega),List.drop_eq_nil_of_le (by omega)]
   simp only[List.append_assoc,List.nil_append]
theorem InsIn.one:∀ {l:List Ins} {xs:List Value},InsIn l xs->∀ u∈xs,u.oneCell'=true
 | [],xs,h,u,hu=>by rw[show xs=[] from h] at hu;cases hu
 | p::l,xs,h,u,hu=>by
   obtain⟨A',m',c',b',ys,rfl,h⟩:=h
   rcases List.mem_append.1 hu with h1|h1
   ·unfold insC at h1
    simp only[List.mem_cons,List.not_mem_nil,or_false] at h1
    rcases h1 with rfl|rfl|rfl|rfl|rfl|rfl|rfl<;>rfl
   ·exact h.one u h1
theorem InsIn.setv {v:V4}:∀ {l:List Ins} {xs:List Value} (i:Nat) (hi:i < l.length),InsIn l xs->InsIn (l.set i ⟨l[i].name,v⟩) ((((xs.set (i * 7+1) (.int .i64 v.a1)).set (i * 7+2) (.int .i64 v.a2)).set (i * 7+3) (.int .i64 v.a3)).set (i * 7+4) (.string v.a))
 | [],_,i,hi,_=>absurd hi (Nat.not_lt_zero _)
 | p::l,xs,0,_,h=>by
   obtain⟨A',m',c',b',ys,rfl,h⟩:=h
   exact⟨A',m',c',b',ys,rfl,h⟩
 | p::l,xs,i+1,hi,h=>by
   obtain⟨A',m',c',b',ys,rfl,h⟩:=h
   have ih:=InsIn.setv (v:=v) i (by simpa using hi) h
   have e:∀ (zs:List Value) (k:Nat) (u:Value),(insC p A' m' c' b'++zs).set ((i+1) * 7+k) u=insC p A' m' c' b'++zs.set (i * 7+k) u:=fun zs k u=>by
    rw[show (i+1) * 7+k=(i * 7+k)+7 by omega,List.set_append_right _ _ (by show 7<=_;omega),show i * 7+k+7 - (insC p A' m' c' b').length=i * 7+k from by show i * 7+k+7 - 7=_;omega]
   rw[e,e,e,e]
   exact⟨A',m',c',b',_,rfl,ih⟩
theorem InsIn.of {w:World} {g:Nat}:∀ (l:List Ins) (i:Nat),(∀ k (h:k < l.length),∃ A m c b,InsAt w g (i+k * 7) l[k] A m c b)->∃ xs,InsIn l xs∧∀ j u,xs[j]?=some u->w.cell? ⟨g,i+j,none⟩=some u
 | [],_,_=>⟨[],rfl,fun j u h=>by cases h⟩
 | x::l,i,h=>by
   obtain⟨A,m,c,b,h0⟩:=h 0 (Nat.succ_pos _)
   obtain⟨ys,h1,h2⟩:=InsIn.of l (i+7) fun k hk=>by
    obtain⟨A',m',c',b',h3⟩:=h (k+1) (by simpa using hk)
    refine⟨A',m',c',b',?_⟩
    rw[show i+7+k * 7=i+(k+1) * 7 by omega]
    exact h3
   refine⟨insC x A m c b++ys,⟨A,m,c,b,ys,rfl,h1⟩,fun j u hu=>?_⟩
   have he:(insC x A m c b).length=7:=rfl
   by_cases hj:j < 7
   ·rw[List.getElem?_append_left (by rw[he];exact hj)] at hu
    have:=h0 j u hu
    simpa using this
   ·rw[List.getElem?_append_right (by rw[he];omega),he] at hu
    have:=h2 _ _ hu
    rw[show i+7+(j - 7)=i+j by omega] at this
    exact this
set_option maxHeartbeats 2000000 in
set_option maxRecDepth 100000 in
theorem CloneIn_any (l:List Ins) (A:Option Addr) (n c:Nat) (w:World) (hn:l.length=n) (hr:RdIns w A l) (hl:n<=2097152) :
 Calls Tryz.prog 140 #[.slice A n c] w fun e w'=>∃ v',e=.returned v'∧∃ xs,w'.ownsRow w.heap.size 178 7 v' n xs∧InsIn l xs∧Ext w w':=by
 obtain⟨i,hi,hz0,hz1,hz2⟩:=info_parts infInst
 cases A with
 | none =>
   have q0:∀ w,Sem.run Tryz.prog (binOp BinOp.eql 92 (.slice none n c) (.slice none 0 0)) w=.ok (.bool true) w:=fun _=>by kernel_rfl
   obtain rfl:l=[]:=by
    by_cases e:l=[]
    ·exact e
    ·obtain⟨_,_,h,_⟩:=hr e
     cases h
   obtain rfl:n=0:=hn.symm
   go_enter Tryz.func140,Tryz.ntmps140
   go_wp2
   go_ret
   exact⟨_,rfl,[],⟨rfl,.inl ⟨rfl,rfl⟩⟩,rfl,Ext.refl _⟩
 | some ad =>
   have q0:∀ w,Sem.run Tryz.prog (binOp BinOp.eql 92 (.slice (some ad) n c) (.slice none 0 0)) w=.ok (.bool false) w:=fun _=>by kernel_rfl
   have hown:=World.ownsRow_lit (base:=w.heap.size) (e:=178) (size:=7) w #[] 0 (Nat.le_refl _) (Nat.zero_le _) rfl
   have hxa:Ext w (w.alloc (.cells #[] 178)):=(Ext.refl w).alloc _
   obtain⟨xs,hin,hcells⟩:∃ xs,InsIn l xs∧∀ j u,xs[j]?=some u->(w.alloc (.cells #[] 178)).cell? (ad.add j)=some u:=by
    by_cases e:l=[]
    ·subst e;exact⟨[],rfl,fun j u h=>by cases h⟩
    ·obtain⟨g,o,h,hX⟩:=hr e
     injection h with h
     subst h
     obtain⟨xs,h1,h2⟩:=InsIn.of l o hX
     exact⟨xs,h1,fun j u hu=>by rw[Addr.add_lit];exact hxa.cell (h2 j u hu)⟩
   have hlen:xs.length=n * 7:=by rw[hin.length,hn]
   have hone:=hin.one
   go_enter Tryz.func140,Tryz.ntmps140
   go_wp2_with (at_builtin;refine wpList_append_own _ rfl _ _ 92 rfl w.heap.size 178 i _ 7 88 Tryz.underlying92 hi hz0 hz1 hz2 rfl (by decide) _ 0 [] rfl hown ad n c xs rfl hlen hcells hone (by simp only[maxLen];omega) (by omega) hxa.size ?_;intro v' w' hown' hg _)
   go_ret
   have hown2:w'.ownsRow w.heap.size 178 7 v' n xs:=by simpa using hown'
   exact⟨v',rfl,xs,hown2,hin,hxa.grown hown (Nat.le_refl _) hg⟩
def FarF (b:Nat) (vi vo:Value) (k:Nat):Prop:=k≠b∧vi.ownBlock≠some k∧vo.ownBlock≠some k
structure FoS (w:World) (b B:Nat) (K:Nat->TypeId->Array Value->Prop) (c0 c2 c3 c4 vi vo:Value) (I:List Ins) (out:List Of):Prop where
 blk:Blk w b 96 #[c0,vi,c2,c3,c4]
 oi:∃ xs,w.ownsRow B 178 7 vi I.length xs∧InsIn I xs
 oo:∃ ys,w.ownsRow B 66 18 vo out.length ys∧OffsIn (FarF b vi vo) w out ys
 ap:∀ k,vi.ownBlock=some k->vo.ownBlock≠some k
 kp:∀ g t cs,K g t cs->Blk w g t cs
 kl:∀ g t cs,K g t cs->g < B∧g≠b
 lt:b < B
namespace FoS
variable {w w':World} {b B:Nat} {K:Nat->TypeId->Array Value->Prop} {c0 c2 c3 c4 vi vo:Value} {I:List Ins} {out:List Of}
theorem ext (h:FoS w b B K c0 c2 c3 c4 vi vo I out) (hx:Ext w w'):FoS w' b B K c0 c2 c3 c4 vi vo I out:=by
 obtain⟨xs,h1,h2⟩:=h.oi
 obtain⟨ys,h3,h4⟩:=h.oo
 exact⟨h.blk.ext hx,⟨xs,own_ext h1 hx,h2⟩,⟨ys,own_ext h3 hx,h4.keep (fun _ _ h=>h) (fun _ _ _ _ hc=>hx.cell hc)⟩,h.ap,fun g t cs hk=>(h.kp g t cs hk).ext hx,h.kl,h.lt⟩
theorem ge (h:FoS w b B K c0 c2 c3 c4 vi vo I out) {k:Nat} (hk:vi.ownBlock=some k∨vo.ownBlock=some k):B<=k∧k < w.heap.size:=by
 obtain⟨xs,h1,_⟩:=h.oi
 obtain⟨ys,h3,_⟩:=h.oo
 rcases hk with hk|hk
 ·exact h1.lt k hk
 ·exact h3.lt k hk
theorem slice (h:FoS w b B K c0 c2 c3 c4 vi vo I out):∃ A c,vi=.slice A I.length c∧RdIns w A I∧(0 < I.length->∃ g,A=some ⟨g,0,none⟩):=by
 obtain⟨xs,ho,hi⟩:=h.oi
 rcases Nat.eq_zero_or_pos I.length with h0|h0
 ·have hl:I=[]:=List.eq_nil_of_length_eq_zero h0
  rcases ho.2 with ⟨rfl,h2⟩|⟨g,cap,cur,rfl,_⟩
  ·exact⟨none,0,by rw[h0],fun h=>absurd hl h,fun h=>by omega⟩
  ·exact⟨_,cap,rfl,fun h=>absurd hl h,fun h=>by omega⟩
 ·obtain⟨g,c,rfl,hg,hB,hnc,hcell⟩:=own_form ho h0
  exact⟨_,c,rfl,hi.rd hcell,fun _=>⟨g,rfl⟩⟩
theorem offers (h:FoS w b B K c0 c2 c3 c4 vi vo I out):∃ A c,vo=.slice A out.length c∧RdO w A out:=by
 obtain⟨xs,ho,hi⟩:=h.oo
 rcases Nat.eq_zero_or_pos out.length with h0|h0
 ·have hl:out=[]:=List.eq_nil_of_length_eq_zero h0
  rcases ho.2 with ⟨rfl,h2⟩|⟨g,cap,cur,rfl,_⟩
  ·exact⟨none,0,by rw[h0],fun h=>absurd hl h⟩
  ·exact⟨_,cap,rfl,fun h=>absurd hl h⟩
 ·obtain⟨g,c,rfl,hg,hB,hnc,hcell⟩:=own_form ho h0
  exact⟨_,c,rfl,hi.rd hcell⟩
theorem rd {A:Option Addr} {n c:Nat} (h:FoS w b B K c0 c2 c3 c4 (.slice A n c) vo I out):RdIns w A I∧n=I.length∧(0 < I.length->∃ g,A=some ⟨g,0,none⟩):=by
 obtain⟨A',c',e,h1,h2⟩:=h.slice
 injection e with e1 e2 e3
 subst e1
 exact⟨h1,e2,h2⟩
theorem app (h:FoS w b B K c0 c2 c3 c4 vi vo I out) {vo':Value} {ys:List Value} {o:Of} {A:Option Addr} {c:Nat} {k:Int} {n x:ByteArray} {A2:Option Addr} {m e2:Nat} (_ho:w.ownsRow B 66 18 vo out.length ys) (hi:OffsIn (FarF b vi vo) w out ys)
 (hof:OfIn (FarF b vi vo) w o A k n x A2 m e2) (ho':w'.ownsRow B 66 18 vo' (out.length+1) (ys++ofCs o A c k n x A2 m e2)) (hg:w.grownBy w' vo.ownBlock) (hnew:vo'.ownBlock=vo.ownBlock∨∀ k,vo'.ownBlock=some k->w.heap.size<=k) :
 FoS w' b B K c0 c2 c3 c4 vi vo' I (out++[o]):=by
 have hlow:∀ g,g < B->some g≠vo.ownBlock:=fun g hl e=>by have:=(h.ge (.inr e.symm)).1;omega
 obtain⟨xs,h1,h2⟩:=h.oi
 refine⟨h.blk.grownR hg (hlow b h.lt),⟨xs,h1.kept hg ?_,h2⟩,⟨_,by rw[List.length_append];exact ho',?_⟩,fun k hk=>?_,fun g t cs hk=>(h.kp g t cs hk).grownR hg (hlow g (h.kl g t cs hk).1),h.kl,h.lt⟩
 ·cases hv:vi.ownBlock with
  | none=>exact .inl rfl
  | some k=>exact .inr fun e=>h.ap k hv e.symm
 ·refine (hi.snoc (c:=c) hof).keep (fun j hj hP=>⟨hP.1,hP.2.1,?_⟩) (fun j p u hP hc=>hg.cell hc fun e=>hP.2.2 e.symm)
  rcases hnew with e|e
  ·rw[e];exact hP.2.2
  ·intro e2;have:=e j e2;omega
 ·rcases hnew with e|e
  ·rw[e];exact h.ap k hk
  ·intro e2;have h5:=e k e2;have h6:=(h.ge (.inl hk)).2;omega
theorem setv (h:FoS w b B K c0 c2 c3 c4 vi vo I out) {g cv:Nat} (hv:vi=.slice (some ⟨g,0,none⟩) I.length cv) (i:Nat) (hi:i < I.length) (v:V4) :
 FoS ((((w.setCell ⟨g,i * 7+1,none⟩ (.int .i64 v.a1)).setCell ⟨g,i * 7+2,none⟩ (.int .i64 v.a2)).setCell ⟨g,i * 7+3,none⟩ (.int .i64 v.a3)).setCell ⟨g,i * 7+4,none⟩ (.string v.a)) b B K c0 c2 c3 c4 vi vo (I.set i ⟨I[i].name,v⟩) out:=by
 have hgb:vi.ownBlock=some g:=by rw[hv];rfl
 have hB:=(h.ge (.inl hgb)).1
 obtain⟨xs,h1,h2⟩:=h.oi
 obtain⟨ys,h3,h4⟩:=h.oo
 have hne:vo.ownBlock=none∨vo.ownBlock≠some g:=.inr (h.ap g hgb)
 have hlow:∀ p q t cs,q < B->Blk w q t cs->∀ u,Blk (w.setCell ⟨g,p,none⟩ u) q t cs:=fun p q t cs hq hb u=>hb.far (by show q≠g;omega) u
 rw[hv] at h1
 obtain⟨a1,b1⟩:=World.ownsRow.stored h1 (i * 7+1) (.int .i64 v.a1)
 obtain⟨a2,b2⟩:=World.ownsRow.stored a1 (i * 7+2) (.int .i64 v.a2)
 obtain⟨a3,b3⟩:=World.ownsRow.stored a2 (i * 7+3) (.int .i64 v.a3)
 obtain⟨a4,b4⟩:=World.ownsRow.stored a3 (i * 7+4) (.string v.a)
 refine⟨?_,⟨_,by rw[List.length_set,hv];exact a4,h2.setv i hi⟩,⟨ys,?_,?_⟩,h.ap,fun q t cs hk=>?_,h.kl,h.lt⟩
 ·have hlb:=h.lt
  exact (((h.blk.far (by show b≠g;omega) _).far (by show b≠g;omega) _).far (by show b≠g;omega) _).far (by show b≠g;omega) _
 ·exact (((h3.kept b1 hne).kept b2 hne).kept b3 hne).kept b4 hne
 ·refine h4.keep (fun _ _ h=>h) fun j p u hP hc=>?_
  have hjg:j≠g:=fun e=>hP.2.1 (by rw[e];exact hgb)
  exact cell_set_far (by show j≠g;exact hjg) (cell_set_far (by show j≠g;exact hjg) (cell_set_far (by show j≠g;exact hjg) (cell_set_far (by show j≠g;exact hjg) hc)))
 ·have hlb:=(h.kl q t cs hk).1
  exact ((((h.kp q t cs hk).far (by show q≠g;omega) _).far (by show q≠g;omega) _).far (by show q≠g;omega) _).far (by show q≠g;omega) _
theorem ins (h:FoS w b B K c0 c2 c3 c4 vi vo I out) {vi':Value} {xs:List Value} {x:Ins} {A:Option Addr} {m c:Nat} {bb:Bool} (_ho:w.ownsRow B 178 7 vi I.length xs) (hi:InsIn I xs) {i:Nat} (hil:i<=I.length)
 (ho':w'.ownsRow B 178 7 vi' (I.length+1) (xs.take (i * 7)++insC x A m c bb++xs.drop (i * 7))) (hg:w.grownBy w' vi.ownBlock) (hnew:vi'.ownBlock=vi.ownBlock∨∀ k,vi'.ownBlock=some k->w.heap.size<=k) :
 FoS (w'.setCell ⟨b,1,none⟩ vi') b B K c0 c2 c3 c4 vi' vo (I.take i++x::I.drop i) out:=by
 have hlow:∀ g,g < B->some g≠vi.ownBlock:=fun g hl e=>by have:=(h.ge (.inl e.symm)).1;omega
 obtain⟨ys,h3,h4⟩:=h.oo
 have hlen:(I.take i++x::I.drop i).length=I.length+1:=by simp;omega
 have hvo:vo.ownBlock=none∨vo.ownBlock≠vi.ownBlock:=by
  cases hv:vi.ownBlock with
  | none=>cases hw:vo.ownBlock with
    | none=>exact .inl rfl
    | some k=>exact .inr (fun e=>by cases e)
  | some k=>exact .inr (h.ap k hv)
 refine⟨(h.blk.grownR hg (hlow b h.lt)).set 1 vi',⟨_,by rw[hlen];exact ownsRow_setCell_below ho' h.lt _,hi.ins i hil⟩,⟨ys,ownsRow_setCell_below (h3.kept hg hvo) h.lt _,?_⟩,fun k hk=>?_,fun g t cs hk=>((h.kp g t cs hk).grownR hg (hlow g (h.kl g t cs hk).1)).far (by show g≠b;exact (h.kl g t cs hk).2) _,h.kl,h.lt⟩
 ·refine h4.keep (fun j hj hP=>⟨hP.1,?_,hP.2.2⟩) (fun j p u hP hc=>cell_set_far (by show j≠b;exact hP.1) (hg.cell hc fun e=>hP.2.1 e.symm))
  rcases hnew with e|e
  ·rw[e];exact hP.2.1
  ·intro e2;have:=e j e2;omega
 ·rcases hnew with e|e
  ·exact h.ap k (by rw[<-e];exact hk)
  ·intro e2;have h5:=e k hk;have h6:=(h.ge (.inr e2)).2;omega
end FoS
end
section
open Go.ChangeShapes Go.WideShapes Go.ChangeAt Go.RowKit Go.WideElems Go.Joins
instance inhIns:Inhabited Ins:=⟨zeroI⟩
instance inhPin:Inhabited Pin:=⟨zeroN⟩
def insBk (x:Ins):Nat:=x.name.size+x.vv.a.size+7
def pinBk (x:Pin):Nat:=x.name.size+(x.fr.map fun s=>s.f.a.size+s.t.a.size+10).sum+2
def seBk (s:Se):Nat:=s.k.size+s.v.size+2
def macBk (m:Mac):Nat:=m.name.size+(m.inst.map insBk).sum+(m.facts.map seBk).sum+(m.sets.map seBk).sum+(m.pins.map pinBk).sum+5
def InsCells (_:World) (x:Ins) (cs:List Value):Prop:=∃ A m c b,cs=insC x A m c b
def PinCells (W:World) (x:Pin) (cs:List Value):Prop:=∃ A c,cs=[.string x.name,.slice A x.fr.length c]∧RdS W A x.fr
set_option maxRecDepth 100000 in
theorem opens_install:Opens 178 InsCells insBk:=fun H enc W fuel cs x h=>by
 obtain⟨xs,n,_,rfl,hl,hlen,hf⟩:=DataW.trod_struct Tryz.underlying178 h
 have hc:Tryz.prog.cellsOf 178=7:=by kernel_rfl
 rw[hc] at hl
 match cs,hl,xs,hlen with
 | [c0,c1,c2,c3,c4,c5,c6],_,[y0,y1,y2,y3],_ =>
   have h0:=hf 0 _ rfl
   replace h0:DataW.trod enc Tryz.prog W 0 (fun _=>true) true n 9 (([c0,c1,c2,c3,c4,c5,c6].drop 0).take (Tryz.prog.cellsOf 9))=some y0:=h0
   rw[show Tryz.prog.cellsOf 9=1 by kernel_rfl] at h0
   obtain⟨a,e0,b0⟩:=opens_string Tryz.underlying9 H enc W n _ _ h0
   have h1:=hf 1 _ rfl
   replace h1:DataW.trod enc Tryz.prog W 0 (fun _=>true) true n 23 (([c0,c1,c2,c3,c4,c5,c6].drop 1).take (Tryz.prog.cellsOf 23))=some y1:=h1
   rw[show Tryz.prog.cellsOf 23=4 by kernel_rfl] at h1
   obtain⟨v,e1,b1⟩:=opens_ver H enc W n _ _ h1
   have h2:=hf 2 _ rfl
   replace h2:DataW.trod enc Tryz.prog W 0 (fun _=>true) true n 74 (([c0,c1,c2,c3,c4,c5,c6].drop 5).take (Tryz.prog.cellsOf 74))=some y2:=h2
   rw[show Tryz.prog.cellsOf 74=1 by kernel_rfl] at h2
   obtain⟨cm,⟨A,c,e2,_⟩,b2⟩:=opens_slice (sz:=1) Tryz.underlying74 (by kernel_rfl) (by decide) (opens_string Tryz.underlying9) H enc W n _ _ h2
   have h3:=hf 3 _ rfl
   replace h3:DataW.trod enc Tryz.prog W 0 (fun _=>true) true n 4 (([c0,c1,c2,c3,c4,c5,c6].drop 6).take (Tryz.prog.cellsOf 4))=some y3:=h3
   rw[show Tryz.prog.cellsOf 4=1 by kernel_rfl] at h3
   obtain⟨wt,e3,b3⟩:=opens_bool Tryz.underlying4 H enc W n _ _ h3
   simp at e0 e1 e2 e3
   subst e0
   obtain⟨rfl,rfl,rfl,rfl⟩:=e1
   subst e2
   subst e3
   refine⟨⟨a,v⟩,⟨A,cm.length,c,wt,rfl⟩,?_⟩
   unfold insBk
   dsimp only at b0 b1 b2 b3 ⊢
   simp only[List.map_cons,List.map_nil,Rows.uptoBulk,Rows.uptoBulkAll]
   omega
set_option maxRecDepth 100000 in
theorem opens_needO:Opens 181 PinCells pinBk:=fun H enc W fuel cs x h=>by
 obtain⟨xs,n,_,rfl,hl,hlen,hf⟩:=DataW.trod_struct Tryz.underlying181 h
 have hc:Tryz.prog.cellsOf 181=2:=by kernel_rfl
 rw[hc] at hl
 match cs,hl,xs,hlen with
 | [c0,c1],_,[y0,y1],_ =>
   have h0:=hf 0 _ rfl
   replace h0:DataW.trod enc Tryz.prog W 0 (fun _=>true) true n 9 (([c0,c1].drop 0).take (Tryz.prog.cellsOf 9))=some y0:=h0
   rw[show Tryz.prog.cellsOf 9=1 by kernel_rfl] at h0
   obtain⟨a,e0,b0⟩:=opens_string Tryz.underlying9 H enc W n _ _ h0
   have h1:=hf 1 _ rfl
   replace h1:DataW.trod enc Tryz.prog W 0 (fun _=>true) true n 42 (([c0,c1].drop 1).take (Tryz.prog.cellsOf 42))=some y1:=h1
   rw[show Tryz.prog.cellsOf 42=1 by kernel_rfl] at h1
   obtain⟨fr,⟨A,c,e1,hr⟩,b1⟩:=opens_range H enc W n _ _ h1
   simp at e0 e1
   subst e0
   subst e1
   refine⟨⟨a,fr⟩,⟨A,c,rfl,hr⟩,?_⟩
   unfold pinBk
   dsimp only at b0 b1 ⊢
   simp only[List.map_cons,List.map_nil,Rows.uptoBulk,Rows.uptoBulkAll]
   omega
theorem rdIns_row {W:World} {A:Option Addr} {l:List Ins} (h:RowOf InsCells 7 W A l):RdIns W A l:=fun hne=>by
 obtain⟨b,o,rfl,hc⟩:=h hne
 refine⟨b,o,rfl,fun k hk=>?_⟩
 obtain⟨ecs,⟨A1,m,c,w,rfl⟩,_,hj⟩:=hc k hk
 refine⟨A1,m,c,w,fun j v hv=>?_⟩
 match j,hv with
 | 0,hv=>injection hv with hv;subst hv;exact hj 0 (by decide)
 | 1,hv=>injection hv with hv;subst hv;exact hj 1 (by decide)
 | 2,hv=>injection hv with hv;subst hv;exact hj 2 (by decide)
 | 3,hv=>injection hv with hv;subst hv;exact hj 3 (by decide)
 | 4,hv=>injection hv with hv;subst hv;exact hj 4 (by decide)
 | 5,hv=>injection hv with hv;subst hv;exact hj 5 (by decide)
 | 6,hv=>injection hv with hv;subst hv;exact hj 6 (by decide)
 | j+7,hv=>simp at hv
theorem rdPin_row {W:World} {A:Option Addr} {l:List Pin} (h:RowOf PinCells 2 W A l):RdPin W A l:=fun hne=>by
 obtain⟨b,o,rfl,hc⟩:=h hne
 refine⟨b,o,rfl,fun k hk=>?_⟩
 obtain⟨ecs,⟨A1,c,rfl,hr⟩,_,hj⟩:=hc k hk
 refine⟨A1,c,fun j v hv=>?_,hr⟩
 match j,hv with
 | 0,hv=>injection hv with hv;subst hv;exact hj 0 (by decide)
 | 1,hv=>injection hv with hv;subst hv;exact hj 1 (by decide)
 | j+2,hv=>simp at hv
def MacCells (W:World) (m:Mac) (cs:List Value):Prop:=∃ A c Af cf As c2 Ap cp,cs=[.string m.name,.slice A m.inst.length c,.slice Af m.facts.length cf,.slice As m.sets.length c2,.slice Ap m.pins.length cp]∧RdIns W A m.inst∧RdE W Af m.facts∧RdE W As m.sets∧RdPin W Ap m.pins∧m.pins.length<=cp
set_option maxRecDepth 100000 in
theorem opens_mac:Opens 96 MacCells macBk:=fun H enc W fuel cs x h=>by
 obtain⟨xs,n,_,rfl,hl,hlen,hf⟩:=DataW.trod_struct Tryz.underlying96 h
 have hc:Tryz.prog.cellsOf 96=5:=by kernel_rfl
 rw[hc] at hl
 match cs,hl,xs,hlen with
 | [c0,c1,c2,c3,c4],_,[y0,y1,y2,y3,y4],_ =>
   have h0:=hf 0 _ rfl
   replace h0:DataW.trod enc Tryz.prog W 0 (fun _=>true) true n 9 (([c0,c1,c2,c3,c4].drop 0).take (Tryz.prog.cellsOf 9))=some y0:=h0
   rw[show Tryz.prog.cellsOf 9=1 by kernel_rfl] at h0
   obtain⟨a,e0,b0⟩:=opens_string Tryz.underlying9 H enc W n _ _ h0
   have h1:=hf 1 _ rfl
   replace h1:DataW.trod enc Tryz.prog W 0 (fun _=>true) true n 92 (([c0,c1,c2,c3,c4].drop 1).take (Tryz.prog.cellsOf 92))=some y1:=h1
   rw[show Tryz.prog.cellsOf 92=1 by kernel_rfl] at h1
   obtain⟨li,⟨A,c,e1,hi⟩,b1⟩:=opens_slice (sz:=7) Tryz.underlying92 (by kernel_rfl) (by decide) opens_install H enc W n _ _ h1
   have h2:=hf 2 _ rfl
   replace h2:DataW.trod enc Tryz.prog W 0 (fun _=>true) true n 93 (([c0,c1,c2,c3,c4].drop 2).take (Tryz.prog.cellsOf 93))=some y2:=h2
   rw[show Tryz.prog.cellsOf 93=1 by kernel_rfl] at h2
   obtain⟨lf,⟨Af,cf,e2,hfa⟩,b2⟩:=opens_slice (sz:=2) Tryz.underlying93 (by kernel_rfl) (by decide) opens_setting H enc W n _ _ h2
   have h3:=hf 3 _ rfl
   replace h3:DataW.trod enc Tryz.prog W 0 (fun _=>true) true n 93 (([c0,c1,c2,c3,c4].drop 3).take (Tryz.prog.cellsOf 93))=some y3:=h3
   rw[show Tryz.prog.cellsOf 93=1 by kernel_rfl] at h3
   obtain⟨ls,⟨As,cz,e3,hse⟩,b3⟩:=opens_slice (sz:=2) Tryz.underlying93 (by kernel_rfl) (by decide) opens_setting H enc W n _ _ h3
   have h4:=hf 4 _ rfl
   replace h4:DataW.trod enc Tryz.prog W 0 (fun _=>true) true n 94 (([c0,c1,c2,c3,c4].drop 4).take (Tryz.prog.cellsOf 94))=some y4:=h4
   rw[show Tryz.prog.cellsOf 94=1 by kernel_rfl] at h4
   obtain⟨lp,⟨Ap,cp,e4,hcp,hpi⟩,b4⟩:=opens_sliceF (sz:=2) Tryz.underlying94 (by kernel_rfl) (by decide) opens_needO H enc W n _ _ h4
   simp at e0 e1 e2 e3 e4
   subst e0
   subst e1
   subst e2
   subst e3
   subst e4
   refine⟨⟨a,li,lf,ls,lp⟩,⟨A,c,Af,cf,As,cz,Ap,cp,rfl,rdIns_row hi,rowOf_settings hfa,rowOf_settings hse,rdPin_row hpi,hcp⟩,?_⟩
   have e2:(lf.map seBk)=lf.map fun s:Se=>s.k.size+s.v.size+2:=rfl
   have e3:(ls.map seBk)=ls.map fun s:Se=>s.k.size+s.v.size+2:=rfl
   unfold macBk
   dsimp only at b0 b1 b2 b3 b4 ⊢
   rw[e2,e3]
   simp only[List.map_cons,List.map_nil,Rows.uptoBulk,Rows.uptoBulkAll]
   omega
theorem small_mac {m:Mac} {n:Nat} (hn:n<=1048576) (h:macBk m<=n):SmallM m∧m.inst.length<=1048576:=by
 unfold macBk at h
 have k1:=sum_len (bk:=insBk) (c:=1) (fun x=>by unfold insBk;omega) m.inst
 have k2:=sum_len (bk:=seBk) (c:=1) (fun x=>by unfold seBk;omega) m.facts
 have k3:=sum_len (bk:=seBk) (c:=1) (fun x=>by unfold seBk;omega) m.sets
 have k4:=sum_len (bk:=pinBk) (c:=1) (fun x=>by unfold pinBk;omega) m.pins
 refine⟨⟨by omega,fun x hx=>?_,fun x hx=>?_,fun x hx=>?_,⟨fun x hx=>?_⟩,by omega,by omega,by omega,by omega⟩,by omega⟩
 ·have:=sum_mem (bk:=insBk) hx
  have e:insBk x=x.name.size+x.vv.a.size+7:=rfl
  exact⟨by omega,by omega⟩
 ·have:=sum_mem (bk:=seBk) hx
  have e:seBk x=x.k.size+x.v.size+2:=rfl
  exact⟨by omega,by omega⟩
 ·have:=sum_mem (bk:=seBk) hx
  have e:seBk x=x.k.size+x.v.size+2:=rfl
  exact⟨by omega,by omega⟩
 ·have h1:=sum_mem (bk:=pinBk) hx
  have e:pinBk x=x.name.size+(x.fr.map fun s=>s.f.a.size+s.t.a.size+10).sum+2:=rfl
  have h2:=sum_len (bk:=fun s:Sp=>s.f.a.size+s.t.a.size+10) (c:=1) (fun s=>by omega) x.fr
  refine⟨by omega,fun y hy=>?_,by omega⟩
  have h4:=sum_mem (bk:=fun s:Sp=>s.f.a.size+s.t.a.size+10) hy
  exact⟨by omega,by omega⟩
set_option maxRecDepth 100000 in
theorem open_mac {H:Type} {enc:TypeId × Value->H} {W:World} {base:Nat} {v:Value} {d:DataW H} {p:List MemPlace} (hv:Value.okWide Tryz.prog W .any base 96 v) (h:DataW.Trod enc Tryz.prog W 0 (fun _=>true) true 96 v d p) (hd:Rows.uptoBulk d<=1048576) :
 ∃ (m:Mac) (A:Option Addr) (c:Nat) (Af:Option Addr) (cf:Nat) (As:Option Addr) (c2:Nat) (Ap:Option Addr) (cp:Nat),v=macV m A m.inst.length c Af m.facts.length cf As m.sets.length c2 Ap m.pins.length cp∧MacIn W m A m.inst.length Af m.facts.length As m.sets.length Ap m.pins.length cp∧SmallM m∧m.inst.length<=1048576:=by
 obtain⟨cs,rfl,_⟩:=okWide_struct Tryz.underlying96 hv
 obtain⟨fuel,hf⟩:=h
 obtain⟨m,⟨A,c,Af,cf,As,c2,Ap,cp,e,h1,h2,h3,h4,h5⟩,hb⟩:=opens_mac H enc W fuel _ _ hf
 dsimp only at hb e
 obtain⟨k1,k2⟩:=small_mac hd hb
 refine⟨m,A,c,Af,cf,As,c2,Ap,cp,?_,⟨rfl,rfl,rfl,rfl,h1,h2,h3,h4,h5⟩,k1,k2⟩
 obtain⟨cs⟩:=cs
 simp only[Value.cells] at e
 rw[show cs=_ from e]
set_option maxRecDepth 100000 in
theorem open_feed {H:Type} {enc:TypeId × Value->H} {W:World} {base:Nat} {v:Value} {d:DataW H} {p:List MemPlace} (hv:Value.okWide Tryz.prog W .any base 59 v) (h:DataW.Trod enc Tryz.prog W 0 (fun _=>true) true 59 v d p) (hd:Rows.uptoBulk d<=1048576) :
 ∃ (f:Fd) (A:Option Addr) (c:Nat),v=.agg #[.string f.ch,.int .i64 f.sr,.int .i64 f.tm,.slice A f.os.length c]∧RdO W A f.os∧SmallFd f:=by
 obtain⟨cs,rfl,_⟩:=okWide_struct Tryz.underlying59 hv
 obtain⟨fuel,hf⟩:=h
 obtain⟨q,⟨A,c,e,h1,h2⟩,hb⟩:=opens_feed H enc W fuel _ _ hf
 dsimp only at hb e
 refine⟨q.fd,A,c,?_,h1,small_feed (n:=Rows.uptoBulk d) hd hb h2⟩
 obtain⟨cs⟩:=cs
 simp only[Value.cells] at e
 rw[show cs=_ from e]
 show Value.agg #[_,_,_,.slice A q.os.length c]=Value.agg #[_,_,_,.slice A (q.os.map Prod.fst).length c]
 rw[List.length_map]
 rfl
end
end Go.Proofs.YtmnafaaijglnfaaGreatDoor
