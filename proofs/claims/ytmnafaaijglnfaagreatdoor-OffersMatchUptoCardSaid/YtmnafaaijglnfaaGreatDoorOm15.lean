/- Contract of ver.ParseRange. Contracts of slices.IndexFunc and slices.ContainsFunc over conditions. slices.Clone over conditions. (As PlY, without the texts that PlY needs.) -/
import Derived.Test.YtmnafaaijglnfaaGreatDoorOm14
import Derived.Test.YtmnafaaijglnfaaGreatDoorOm12
namespace Go.Proofs.YtmnafaaijglnfaaGreatDoor
section
open Go.RowKit
theorem splitK_le (sep:Str):∀ (k:Nat) (l p:Str),p∈Lib.splitK sep 0 k l->p.length<=l.length
 | 0,l,p,h=>by
   rw[Lib.splitK,List.mem_singleton] at h
   rw[h];exact Nat.le_refl _
 | k+1,l,p,h=>by
   unfold Lib.splitK at h
   split at h
   ·rw[List.mem_singleton] at h
    rw[h];exact Nat.le_refl _
   ·rcases List.mem_cons.1 h with e|e
    ·rw[e,List.length_take];omega
    ·have:=splitK_le sep k _ p e
     rw[List.length_drop] at this
     omega
theorem split_g (s sep:ByteArray) (w:World) (hg:Good w) (hs:s.size<=2097152) (hsep:1<=sep.size) :
 Calls Tryz.prog 70 #[.string s,.string sep] w fun e w'=>∃ (b:Nat) (xs:List ByteArray),
  e=.returned (.slice (some ⟨b,0,none⟩) xs.length xs.length)∧Strs w' b xs∧xs.map bs=Lib.split (bs s) (bs sep)∧0 < xs.length∧xs.length<=s.size+1∧(∀ x∈xs,x.size<=s.size)∧Ext w w':=by
 obtain⟨m,hm⟩:=hg.maxLen
 refine (Tryz.strings_Split s sep m w (by omega) hm hsep).mono ?_
 rintro e w' ⟨rfl,rfl⟩
 have hlen:(Lib.splitB sep 0 (Lib.countB s sep) s).length=Lib.countB s sep+1:=Lib.splitB_all sep hsep 0 _ s rfl
 have hle:=Lib.countB_le sep hsep s.size s (Nat.le_refl _)
 have hmap:(Lib.splitB sep 0 (Lib.countB s sep) s).map bs=Lib.split (bs s) (bs sep):=Lib.splitB_data sep 0 _ s
 refine⟨w.heap.size,_,by rw[hlen],⟨by simp,?_⟩,hmap,by omega,by omega,fun x hx=>?_,(Ext.refl w).alloc _⟩
 ·intro k hk
  rw[World.cell?_alloc_at _ _ _ _ rfl]
  simp[hk]
 ·rw[<-bs_length,<-bs_length s]
  exact splitK_le (bs sep) _ _ _ (by
   have:bs x∈(Lib.splitB sep 0 (Lib.countB s sep) s).map bs:=List.mem_map.2 ⟨x,hx,rfl⟩
   rw[hmap] at this
   exact this)
theorem flat_take_succ {α β:Type} (f:α->List β) (l:List α) (k:Nat) (h:k < l.length):(l.take k).flatMap f++f l[k]=(l.take (k+1)).flatMap f:=by
 rw[List.take_succ_eq_append_getElem h,List.flatMap_append]
 simp
theorem flat_get {α β:Type} {f:α->List β} {m:Nat} (hf:∀ x,(f x).length=m):∀ (l:List α) (k j:Nat) (h:k < l.length),j < m->(l.flatMap f)[k * m+j]?=(f l[k])[j]?
 | x::l,0,j,_,hj=>by
   rw[List.flatMap_cons,Nat.zero_mul,Nat.zero_add,List.getElem?_append_left (by rw[hf];exact hj)]
   rfl
 | x::l,k+1,j,h,hj=>by
   rw[List.flatMap_cons,List.getElem?_append_right (by rw[hf,Nat.add_mul];omega),hf]
   rw[show (k+1) * m+j - m=k * m+j by rw[Nat.add_mul];omega]
   exact flat_get hf l k j (by simpa using h) hj
def itC (it:It):List Value:=[.int .u8 it.sign.toNat,S it.first,S it.last]
def spC (s:Sp):List Value:=[.bool s.hf,.bool s.ht,.int .i64 s.f.a1,.int .i64 s.f.a2,.int .i64 s.f.a3,.string s.f.a,.int .i64 s.t.a1,.int .i64 s.t.a2,.int .i64 s.t.a3,.string s.t.a]
theorem spC_length (s:Sp):(spC s).length=10:=rfl
theorem rds_own {w:World} {B n:Nat} {v:Value} {l:List Sp} (h:w.ownsRow B 130 10 v n (l.flatMap spC)) (hn:l.length=n):∃ A c,v=.slice A n c∧RdS w A l:=by
 rcases Nat.eq_zero_or_pos n with h0|h0
 ·subst h0
  have he:l=[]:=List.eq_nil_of_length_eq_zero hn
  rcases h.2 with ⟨rfl,_⟩|⟨g,cap,cur,rfl,_⟩
  ·exact⟨none,0,rfl,fun e=>absurd he e⟩
  ·exact⟨_,_,rfl,fun e=>absurd he e⟩
 ·obtain⟨g,c,rfl,hlt,hB,hc,hcell⟩:=own_form h h0
  refine⟨_,_,rfl,fun _=>⟨g,0,rfl,?_⟩⟩
  have hx:∀ k (h:k < l.length) (j:Nat) (u:Value),(spC l[k])[j]?=some u->w.cell? ⟨g,0+k * 10+j,none⟩=some u:=fun k hk j u hu=>by
   have hj:j < 10:=by
    rcases Nat.lt_or_ge j 10 with h|h
    ·exact h
    ·rw[List.getElem?_eq_none (by rw[spC_length];exact h)] at hu;cases hu
   rw[Nat.zero_add]
   exact hcell _ u (by rw[flat_get spC_length l k j hk hj];exact hu)
  exact⟨fun k hk=>hx k hk 0 _ rfl,fun k hk=>hx k hk 1 _ rfl,fun k hk=>hx k hk 2 _ rfl,fun k hk=>hx k hk 3 _ rfl,fun k hk=>hx k hk 4 _ rfl,fun k hk=>hx k hk 5 _ rfl,fun k hk=>hx k hk 6 _ rfl,
   fun k hk=>hx k hk 7 _ rfl,fun k hk=>hx k hk 8 _ rfl,fun k hk=>hx k hk 9 _ rfl⟩
theorem info_item:(Tryz.prog.info? 135).map (fun i=>(i.zero,i.size,i.bytes))=some (some (.agg #[.int .u8 0,.string ⟨#[]⟩,.string ⟨#[]⟩]),3,40):=by kernel_rfl
theorem info_span:(Tryz.prog.info? 130).map (fun i=>(i.zero,i.size,i.bytes))=some (some (.agg #[.bool false,.bool false,.int .i64 0,.int .i64 0,.int .i64 0,.string ⟨#[]⟩,.int .i64 0,.int .i64 0,.int .i64 0,.string ⟨#[]⟩]),10,88):=by kernel_rfl
def RangePost (q:List Sp × Int) (w:World) (E:Ending) (w':World):Prop :=
 ∃ A c,E=.returned (.tuple #[.agg #[.slice A q.1.length c],.int .i64 q.2])∧RdS w' A q.1∧SmallS q.1∧Ext w w'
theorem range_none {r:Int} {w w':World} (hx:Ext w w'):RangePost ([],r) w (.returned (.tuple #[.agg #[.slice none 0 0],.int .i64 r])) w' :=
 ⟨none,0,rfl,(fun h=>absurd rfl h),(fun _ h=>by cases h),hx⟩
def RdP (P:Nat->Prop) (w:World) (A:Option Addr) (l:List Sp):Prop:=l≠[]->∃ b i,A=some ⟨b,i,none⟩∧P b∧SpS w b i l
theorem RdP.rd {P:Nat->Prop} {w:World} {A:Option Addr} {l:List Sp} (h:RdP P w A l):RdS w A l:=fun hn=>by
 obtain⟨b,i,e,_,k⟩:=h hn
 exact⟨b,i,e,k⟩
theorem rdp_own {w:World} {B n:Nat} {v:Value} {l:List Sp} (h:w.ownsRow B 130 10 v n (l.flatMap spC)) (hn:l.length=n):∃ A c,v=.slice A n c∧RdP (fun b=>B<=b) w A l:=by
 obtain⟨A,c,e,hr⟩:=rds_own h hn
 refine⟨A,c,e,fun hne=>?_⟩
 obtain⟨b,o,hA,hs⟩:=hr hne
 obtain⟨g,c',e2,_,hB,_⟩:=own_form h (by rw[<-hn];exact List.length_pos_iff.2 hne)
 rw[e,hA] at e2
 injection e2 with e2
 injection e2 with e2
 injection e2 with e2
 subst e2
 exact⟨b,o,hA,hB,hs⟩
def RangePostB (q:List Sp × Int) (w:World) (E:Ending) (w':World):Prop :=
 ∃ A c,E=.returned (.tuple #[.agg #[.slice A q.1.length c],.int .i64 q.2])∧RdP (fun b=>w.heap.size<=b) w' A q.1∧SmallS q.1∧Ext w w'
theorem range_noneB {r:Int} {w w':World} (hx:Ext w w'):RangePostB ([],r) w (.returned (.tuple #[.agg #[.slice none 0 0],.int .i64 r])) w' :=
 ⟨none,0,rfl,(fun h=>absurd rfl h),(fun _ h=>by cases h),hx⟩
theorem RangePostB.weak {q:List Sp × Int} {w w':World} {E:Ending} (h:RangePostB q w E w'):RangePost q w E w':=by
 obtain⟨A,c,e,hr,hs,hx⟩:=h
 exact⟨A,c,e,hr.rd,hs,hx⟩
theorem item_len (l:Str):(itemL l).1.first.length<=l.length∧(itemL l).1.last.length<=l.length:=by
 have hc:=cutC_size 32 (l.drop 2)
 have ht:=Lib.trimPrefix_le (cutC 32 (l.drop 2)).2.1 [60]
 have hd:(l.drop 2).length<=l.length:=by rw[List.length_drop];omega
 have hd1:(l.drop 1).length<=l.length:=by rw[List.length_drop];omega
 unfold itemL
 split
 ·exact⟨Nat.zero_le _,Nat.zero_le _⟩
 ·split
  ·split
   ·exact⟨by dsimp only;omega,by dsimp only;omega⟩
   ·exact⟨hd,Nat.zero_le _⟩
  ·split
   ·exact⟨hd1,Nat.zero_le _⟩
   ·exact⟨Nat.le_refl _,Nat.zero_le _⟩
def spO (p:ByteArray):Sp × Int:=spanL (itemL (bs p)).1
theorem parse_large {s:Str} (h:1000 < s.length):parseR s=([],4):=by rw[parseR,if_pos h]
theorem parse_none {s:Str} (h1:¬ 1000 < s.length) (h:s=[110,111,110,101]):parseR s=([],0):=by rw[parseR,if_neg h1,if_pos h]
theorem parse_syn {s:Str} {xs:List ByteArray} (h1:¬ 1000 < s.length) (h2:¬ s=[110,111,110,101]) (hx:xs.map bs=Lib.split s [44,32]) {k:Nat} (hk:k < xs.length) (hs:synL (bs xs[k])=true):parseR s=([],8):=by
 rw[parseR,if_neg h1,if_neg h2,if_pos]
 rw[<-hx]
 exact List.any_eq_true.2 ⟨bs xs[k],List.mem_map.2 ⟨_,List.getElem_mem hk,rfl⟩,hs⟩
theorem parse_spans {s:Str} {xs:List ByteArray} (h1:¬ 1000 < s.length) (h2:¬ s=[110,111,110,101]) (hx:xs.map bs=Lib.split s [44,32]) (hs:∀ x∈xs,synL (bs x)=false):parseR s=spansOf (xs.map spO):=by
 rw[parseR,if_neg h1,if_neg h2,if_neg,<-hx,List.map_map]
 ·rfl
 ·rw[<-hx]
  intro h
  obtain⟨p,hp,hq⟩:=List.any_eq_true.1 h
  obtain⟨x,hxm,rfl⟩:=List.mem_map.1 hp
  rw[hs x hxm] at hq
  cases hq
theorem spans_err {q:List (Sp × Int)} {k:Nat} (hk:k < q.length) (h0:∀ x∈q.take k,x.2=0) (h:¬ q[k].2=0):spansOf q=([],q[k].2):=by
 have e:firstI (q.map (·.2))=q[k].2:=by
  have:=firstI_at (l:=q.map (·.2)) (k:=k) (by simpa using hk) (fun x hx=>by
   rw[<-List.map_take] at hx
   obtain⟨y,hy,rfl⟩:=List.mem_map.1 hx
   exact h0 y hy) (by simpa using h)
  simpa using this
 unfold spansOf
 rw[e,if_pos h]
theorem spans_rng {q:List (Sp × Int)} (h0:∀ x∈q,x.2=0) (h:¬ rngErr (q.map (·.1))=0):spansOf q=([],rngErr (q.map (·.1))):=by
 have e:firstI (q.map (·.2))=0:=firstI_zero fun x hx=>by
  obtain⟨y,hy,rfl⟩:=List.mem_map.1 hx
  exact h0 y hy
 unfold spansOf
 rw[e,if_neg (by decide),if_pos h]
theorem spans_ok {q:List (Sp × Int)} (h0:∀ x∈q,x.2=0) (h:rngErr (q.map (·.1))=0):spansOf q=(q.map (·.1),0):=by
 have e:firstI (q.map (·.2))=0:=firstI_zero fun x hx=>by
  obtain⟨y,hy,rfl⟩:=List.mem_map.1 hx
  exact h0 y hy
 unfold spansOf
 rw[e,if_neg (by decide),if_neg (by simpa using h)]
def Fine (x:Sp × Int):Prop:=x.2=0∧x.1.f.a.size<=2097152∧x.1.t.a.size<=2097152
theorem syn_of {p:Str} {it:It} {ok:Bool} (h:itemL p=(it,ok)):synL p=(!ok||(it.sign != 42&&wrongL it.first)||(it.sign==98&&wrongL it.last)):=by rw[synL,h]
end
section
open Go.RowKit
set_option maxHeartbeats 4000000 in
theorem IndexFuncC_any (A:Option Addr) (c b o:Nat) (P:Nat->Prop) (l:List Cd) (f:FuncId) (lb:Array Value) (p:Cd->Bool) (w:World) (hA:0 < l.length->A=some ⟨b,o,none⟩) (hr:ArgAt P w l b o) (hl:l.length<=100000000)
 (hen:∀ xs w,Sem.run Tryz.prog (callFunc f xs) w=.ok (.enter f xs) w)
 (hp:∀ k (hk:k < l.length) v W,CdIn P W l[k] v->Ext w W->Calls Tryz.prog f (#[v]++lb) W fun e w'=>e=.returned (.bool (p l[k]))∧Ext W w') :
 Calls Tryz.prog 255 #[.slice A l.length c,.func (.func f) #[] lb] w fun e w'=>∃ z:Int,e=.returned (.int .i64 z)∧(0<=z↔l.any p=true)∧Ext w w':=by
 have HP:=Hy hp
 have HA:=Hy hA
 have HR:=Hy hr
 clear hp hA hr
 go_enter Tryz.func255,Tryz.ntmps255
 go_wp2
 go_loopw [8] (fun i wr=>∃ k:Nat,k<=l.length∧i=.int .i64 k∧Hid (∀ j (hj:j < l.length),j < k->p l[j]=false)∧Ext w wr) (fun i _=>l.length - (intOf i).toNat)
 case atStart=>exact⟨0,Nat.zero_le _,rfl,fun j _ h=>absurd h (Nat.not_lt_zero _),Ext.refl _⟩
 case round =>
  obtain⟨k,hk,rfl,HALL,hxr⟩:=hrel
  by_cases hlt:k < l.length
  ·obtain rfl:=HA.out (by omega)
   obtain⟨ck,cn,cx,cA,cm,ccp,x0,x1,x2,x3,hcd⟩:=HR.out.ext hxr k hlt
   have HNX:=Hy (show p l[k]=false->∀ j (hj:j < l.length),j < k+1->p l[j]=false from fun e j hj h=>by
    by_cases hjk:j=k
    ·subst hjk;exact e
    ·exact HALL.out j hj (by omega))
   have HYES:=Hy (fun e=>any_at (p:=p) hlt e)
   have hc:=HP.out k hlt _ _ hcd hxr
   have hlb:=lt_of_cell x0
   clear hcd
   generalize p l[k]=r at *
   have HC:=Hy hc
   clear hc
   go_wp2_with fail
   refine HC.out.mono ?_
   rintro e w1 ⟨rfl,hx1⟩
   cases r
   ·have HF:=Hy (HNX.out rfl)
    go_wp2
    go_roundw
    case rel=>exact⟨k+1,by omega,by go_num,HF.out,hxr.trans hx1⟩
    case measure=>simp[intOf];omega
   ·have HF:=Hy (HYES.out rfl)
    go_wp2
    go_ret
    exact⟨(k:Int),rfl,⟨fun _=>HF.out,fun _=>by omega⟩,hxr.trans hx1⟩
  ·obtain rfl:k=l.length:=by omega
   have HF:=Hy (any_none (p:=p) fun j hj=>HALL.out j hj hj)
   go_wp2
   go_ret
   exact⟨-1,rfl,⟨fun h=>by omega,fun h=>by rw[HF.out] at h;cases h⟩,hxr⟩
set_option maxHeartbeats 4000000 in
theorem ContainsFuncC_any (A:Option Addr) (c b o:Nat) (P:Nat->Prop) (l:List Cd) (f:FuncId) (lb:Array Value) (p:Cd->Bool) (w:World) (hA:0 < l.length->A=some ⟨b,o,none⟩) (hr:ArgAt P w l b o) (hl:l.length<=100000000)
 (hen:∀ xs w,Sem.run Tryz.prog (callFunc f xs) w=.ok (.enter f xs) w)
 (hp:∀ k (hk:k < l.length) v W,CdIn P W l[k] v->Ext w W->Calls Tryz.prog f (#[v]++lb) W fun e w'=>e=.returned (.bool (p l[k]))∧Ext W w') :
 Calls Tryz.prog 210 #[.slice A l.length c,.func (.func f) #[] lb] w fun e w'=>e=.returned (.bool (l.any p))∧Ext w w':=by
 have CI:=Hy (IndexFuncC_any A c b o P l f lb p w hA hr hl hen hp)
 clear hA hr hp
 generalize l.any p=r at *
 go_enter Tryz.func210,Tryz.ntmps210
 go_wp2_with fail
 refine CI.out.mono ?_
 rintro e w1 ⟨z,rfl,hz,hx1⟩
 have HZ:=Hy hz
 clear hz
 go_wp2
 go_ret
 refine⟨ret_bool ?_,hx1⟩
 have h:=HZ.out
 cases r
 ·have:¬ 0<=z:=fun e=>by have:=h.1 e;cases this
  simp;omega
 ·have:=h.2 rfl
  simp;omega
end
section
open Go.RowKit
set_option maxHeartbeats 2000000 in
set_option maxRecDepth 100000 in
theorem CloneCd_any (xs:List Value) (A:Option Addr) (n c:Nat) (w:World) (hlen:xs.length=n * 4) (hr:0 < n->∃ b o,A=some ⟨b,o,none⟩∧∀ j u,xs[j]?=some u->w.cell? ⟨b,o+j,none⟩=some u) (hone:∀ u∈xs,u.oneCell'=true) (hl:n<=2097152) :
 Calls Tryz.prog 236 #[.slice A n c] w fun e w'=>∃ v,e=.returned v∧w'.ownsRow w.heap.size 52 4 v n xs∧Ext w w':=by
 obtain⟨i,hi,hz0,hz1,hz2⟩:=info_parts info_cond
 cases A with
 | none =>
   have q0:∀ w,Sem.run Tryz.prog (binOp BinOp.eql 50 (.slice none n c) (.slice none 0 0)) w=.ok (.bool true) w:=fun _=>by kernel_rfl
   obtain rfl:n=0:=by
    rcases Nat.eq_zero_or_pos n with h|h
    ·exact h
    ·obtain⟨_,_,e,_⟩:=hr h;cases e
   obtain rfl:xs=[]:=List.eq_nil_of_length_eq_zero (by omega)
   go_enter Tryz.func236,Tryz.ntmps236
   go_wp2
   go_ret
   exact⟨_,rfl,World.ownsRow_nil _ _ _ _,Ext.refl _⟩
 | some ad =>
   have q0:∀ w,Sem.run Tryz.prog (binOp BinOp.eql 50 (.slice (some ad) n c) (.slice none 0 0)) w=.ok (.bool false) w:=fun _=>by kernel_rfl
   have hown:=World.ownsRow_lit (base:=w.heap.size) (e:=52) (size:=4) w #[] 0 (Nat.le_refl _) (Nat.zero_le _) rfl
   have hxa:Ext w (w.alloc (.cells #[] 52)):=(Ext.refl w).alloc _
   have hcells:∀ j u,xs[j]?=some u->(w.alloc (.cells #[] 52)).cell? (ad.add j)=some u:=fun j u hu=>by
    rcases Nat.eq_zero_or_pos n with h|h
    ·subst h
     obtain rfl:xs=[]:=List.eq_nil_of_length_eq_zero (by omega)
     cases hu
    ·obtain⟨b,o,e,hX⟩:=hr h
     injection e with e
     subst e
     rw[Addr.add_lit,hxa.cell (hX j u hu)]
   go_enter Tryz.func236,Tryz.ntmps236
   go_wp2_with (at_builtin;refine wpList_append_own _ rfl _ _ 50 rfl w.heap.size 52 i (.agg #[.int .i64 0,.string ⟨#[]⟩,.string ⟨#[]⟩,.slice none 0 0]) 4 64 Tryz.underlying50 hi hz0 hz1 hz2 rfl (by decide) _ 0 [] rfl hown ad n c xs rfl hlen hcells hone (by simp only[maxLen];omega) (by omega) hxa.size ?_;intro v' w' hown' hg _)
   go_ret
   refine⟨v',rfl,by simpa using hown',hxa.grown hown ?_ hg⟩
   exact Nat.le_refl _
end
end Go.Proofs.YtmnafaaijglnfaaGreatDoor
