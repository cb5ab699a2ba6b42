/- Contract of outref2.SameCond, at two conditions that are the same. Settings: plain words, and settings in memory. Maps of strings that the call itself has made. Tables of settings: the program's and the reference's. Printed by gen/setb.py. Contracts of ver.Holds at the condition that always holds, and of migrate.settingsFault. Settings among the arguments. Contracts of ver.within, names, has, Has. Contracts of slices.ContainsFunc over spans, outref2.Inside, HasOf. Plain law: a printed condition is read back. Plain law: what is printed of a right condition, is read as that condition. Plain law: how long a condition's text is; joined texts. Plain law: the value of a key among ordered settings. Contracts of slices.IndexFunc and slices.ContainsFunc over conditions. Contracts of slices.BinarySearchFunc over settings, and of ver.valueOf. -/
import Derived.Test.YtmpccllnpcbgcaaGreatDoorPk03
import Derived.Test.YtmpccllnpcbgcaaGreatDoorPk08
import Derived.Test.YtmpccllnpcbgcaaGreatDoorPk06
import Derived.Laws.EntriesVeiled
namespace Go.Proofs.YtmpccllnpcbgcaaGreatDoor
section
open Go.RowKit
theorem cnts_mem':∀ {l:List Cd} {c:Cd},c∈l->cnt c<=cnts l
 | a::l,c,h=>by
   rcases List.mem_cons.1 h with rfl|h
   ·simp only[cnts];omega
   ·have:=cnts_mem' h
    simp only[cnts];omega
theorem cntz_len:∀ (l:List Cd),l.length<=cnts l
 | []=>Nat.le_refl _
 | c::l=>by
   have:=cntz_len l
   have:=cnt_pos c
   simp only[cnts,List.length_cons]
   omega
theorem CdIn.arg {P:Nat->Prop} {w:World} {k:Int} {n x:ByteArray} {l:List Cd} {v:Value} (h:CdIn P w (.mk k n x l) v) :
 ∃ (A:Option Addr) (cp b o:Nat),v=.agg #[.int .i64 k,.string n,.string x,.slice A l.length cp]∧(0 < l.length->A=some ⟨b,o,none⟩)∧ArgAt P w l b o:=by
 cases h with
 | mk k n x l A cp b o u0 u1 u2 u3 hA hb h0 h1 h2 h3 hr =>
   refine⟨A,cp,b,o,rfl,hA,fun j hj=>?_⟩
   have hc:=hr j hj
   obtain⟨ck,cn,cx,cA,cm,ccp,hcc⟩:=hc.cells
   have hcc2:=hcc
   simp only[Value.agg.injEq,Array.mk.injEq,List.cons.injEq,and_true] at hcc2
   obtain⟨q0,q1,q2,q3⟩:=hcc2
   exact⟨ck,cn,cx,cA,cm,ccp,q0 ▸ h0 j hj,q1 ▸ h1 j hj,q2 ▸ h2 j hj,q3 ▸ h3 j hj,hcc ▸ hc⟩
set_option maxRecDepth 100000 in
set_option maxHeartbeats 8000000 in
theorem EqualC_any (l:List Cd) (P Q:Nat->Prop) (hl:l.length<=100000000)
 (hS:∀ c∈l,∀ v1 v2 w,CdIn P w c v1->CdIn Q w c v2->Calls Tryz.prog 36 #[v1,v2] w fun e w'=>e=.returned (.bool true)∧Ext w w')
 (A1 A2:Option Addr) (c1 c2 b1 o1 b2 o2:Nat) (w:World) (hA1:0 < l.length->A1=some ⟨b1,o1,none⟩) (hA2:0 < l.length->A2=some ⟨b2,o2,none⟩) (h1:ArgAt P w l b1 o1) (h2:ArgAt Q w l b2 o2) :
 Calls Tryz.prog 108 #[.slice A1 l.length c1,.slice A2 l.length c2,.func (.func 36) #[] #[]] w fun e w'=>e=.returned (.bool true)∧Ext w w':=by
 have hen:∀ xs w,Sem.run Tryz.prog (callFunc 36 xs) w=.ok (.enter 36 xs) w:=fun xs w=>by kernel_rfl
 have hne:((l.length:Int) != (l.length:Int))=false:=by rw[bne,beq_iff_eq.2 rfl];rfl
 have HS:=Hy hS
 have H1:=Hy h1;have H2:=Hy h2;have HA1:=Hy hA1;have HA2:=Hy hA2
 clear hS h1 h2 hA1 hA2
 go_enter Tryz.func108,Tryz.ntmps108
 go_wp2
 go_loopw [17] (fun t wr=>∃ j:Nat,t=.int .i64 j∧j<=l.length∧Ext w wr) (fun t _=>l.length - (intOf t).toNat)
 case atStart=>exact⟨0,by go_num,Nat.zero_le _,Ext.refl w⟩
 case round =>
  obtain⟨j,rfl,hj,hxr⟩:=hrel
  have HXR:=Hy hxr
  by_cases hlt:j < l.length
  ·obtain rfl:=HA1.out (by omega)
   obtain rfl:=HA2.out (by omega)
   obtain⟨k1,n1,x1,B1,m1,p1,g0,g1,g2,g3,hc1⟩:=H1.out.ext hxr j hlt
   obtain⟨k2,n2,x2,B2,m2,p2,g4,g5,g6,g7,hc2⟩:=H2.out.ext hxr j hlt
   have hxc:Ext wr ((wr.alloc (.cells #[.int .i64 k1,.string n1,.string x1,.slice B1 m1 p1] 52)).alloc (.cells #[.int .i64 k2,.string n2,.string x2,.slice B2 m2 p2] 52)):=((Ext.refl wr).alloc _).alloc _
   have hs:=HS.out l[j] (List.getElem_mem hlt) _ _ _ (hc1.ext hxc) (hc2.ext hxc)
   have HSS:=Hy hs
   have hq0:(0:Int)<=(j:Int):=by omega
   have hlb1:=lt_of_cell g0;have hlb2:=lt_of_cell g4
   clear hs hc1 hc2 hxr hxc
   go_wp2_with fail
   refine HSS.out.mono ?_
   rintro e w3 ⟨rfl,hx3⟩
   go_wp2
   go_roundw
   case rel=>exact⟨j+1,by go_num,hlt,(((HXR.out.alloc _).alloc _).trans hx3)⟩
   case measure=>simp[intOf];omega
  ·go_wp2
   go_ret
   exact⟨rfl,HXR.out⟩
set_option maxRecDepth 100000 in
set_option maxHeartbeats 8000000 in
theorem SameCond_refl (P Q:Nat->Prop):∀ (N:Nat) (c:Cd),cnt c<=N->N<=100000000->∀ (v1 v2:Value) (w:World),CdIn P w c v1->CdIn Q w c v2 ->
 Calls Tryz.prog 36 #[v1,v2] w fun e w'=>e=.returned (.bool true)∧Ext w w':=by
 intro N
 induction N with
 | zero=>intro c hc;have:=cnt_pos c;omega
 | succ N ih =>
   intro c hc hN v1 v2 w h1 h2
   obtain⟨k,n,x,l⟩:=c
   obtain⟨A1,p1,b1,o1,rfl,hA1,ha1⟩:=h1.arg
   obtain⟨A2,p2,b2,o2,rfl,hA2,ha2⟩:=h2.arg
   have hcl:cnts l<=N:=by unfold cnt at hc;omega
   have hll:=cntz_len l
   have hxb:Ext w ((w.alloc (.cells #[.int .i64 k,.string n,.string x,.slice A1 l.length p1] 52)).alloc (.cells #[.int .i64 k,.string n,.string x,.slice A2 l.length p2] 52)):=((Ext.refl w).alloc _).alloc _
   have hE:=EqualC_any l P Q (by omega) (fun c hcm v1 v2 w g1 g2=>ih c (Nat.le_trans (cnts_mem' hcm) hcl) (by omega) v1 v2 w g1 g2) A1 A2 p1 p2 b1 o1 b2 o2 _ hA1 hA2 (ha1.ext hxb) (ha2.ext hxb)
   have HE:=Hy hE
   have e1:(k==k)=true:=beq_iff_eq.2 rfl
   have e2:(n.toList==n.toList)=true:=by rw[eqE,decide_eq_true rfl]
   have e3:(x.toList==x.toList)=true:=by rw[eqE,decide_eq_true rfl]
   clear hE ih h1 h2 ha1 ha2 hA1 hA2
   go_enter Tryz.func36,Tryz.ntmps36
   go_wp2_with fail
   refine HE.out.mono ?_
   rintro e w1 ⟨rfl,hx1⟩
   go_wp2
   go_ret
   exact⟨rfl,hxb.trans hx1⟩
end
section
open Go.RowKit
def zeroSe:Se:=⟨⟨#[]⟩,⟨#[]⟩⟩
def seOne (is:Str->Bool) (s:Se):Int:=if is (bs s.k)=false then 5 else if valueL (bs s.v)=false then 2 else 0
def seGap (p s:Se):Int:=if (Op.bytesLess s.k.toList p.k.toList||s.k.toList==p.k.toList)=true then 7 else 0
def seAt (is:Str->Bool) (l:List Se) (i:Nat):Int :=
 if seOne is (l.getD i zeroSe)≠0 then seOne is (l.getD i zeroSe) else if i=0 then 0 else seGap (l.getD (i - 1) zeroSe) (l.getD i zeroSe)
def seErrs (is:Str->Bool) (l:List Se):List Int:=(List.range l.length).map (seAt is l)
def seErr (is:Str->Bool) (l:List Se):Int:=firstI (seErrs is l)
theorem seErrs_length (is:Str->Bool) (l:List Se):(seErrs is l).length=l.length:=by simp[seErrs]
theorem seErrs_get (is:Str->Bool) (l:List Se) (k:Nat) (h:k < (seErrs is l).length):(seErrs is l)[k]=seAt is l k:=by simp[seErrs]
theorem seAt_0 {is:Str->Bool} {l:List Se} (h:0 < l.length):seAt is l 0=seOne is l[0]:=by
 unfold seAt
 have e:l.getD 0 zeroSe=l[0]:=by simp[List.getD,List.getElem?_eq_getElem h]
 rw[e]
 by_cases h1:seOne is l[0]=0
 ·rw[if_neg (by simpa using h1),if_pos rfl,h1]
 ·rw[if_pos h1]
theorem seAt_bad {is:Str->Bool} {l:List Se} {k:Nat} (h:k < l.length) (h1:¬ seOne is l[k]=0):seAt is l k=seOne is l[k]:=by
 unfold seAt
 have e:l.getD k zeroSe=l[k]:=by simp[List.getD,List.getElem?_eq_getElem h]
 rw[e,if_pos h1]
theorem seAt_gap {is:Str->Bool} {l:List Se} {k:Nat} (h:k+1 < l.length) (h1:seOne is l[k+1]=0):seAt is l (k+1)=seGap l[k] l[k+1]:=by
 unfold seAt
 have e:l.getD (k+1) zeroSe=l[k+1]:=by simp[List.getD,List.getElem?_eq_getElem h]
 have e2:l.getD k zeroSe=l[k]:=by simp[List.getD,List.getElem?_eq_getElem (by omega:k < l.length)]
 rw[Nat.add_sub_cancel,e,e2,if_neg (by simpa using h1),if_neg (by omega)]
theorem seErr_at {is:Str->Bool} {l:List Se} {k:Nat} (h:k < l.length) (h0:∀ x∈(seErrs is l).take k,x=0) (h1:¬ seAt is l k=0):seErr is l=seAt is l k:=by
 have hk:k < (seErrs is l).length:=by rw[seErrs_length];exact h
 rw[seErr,firstI_at hk h0 (by rw[seErrs_get];exact h1),seErrs_get]
theorem seErr_next {is:Str->Bool} {l:List Se} {k:Nat} (h:k < l.length) (h0:∀ x∈(seErrs is l).take k,x=0) (h1:seAt is l k=0):∀ x∈(seErrs is l).take (k+1),x=0:=by
 have hk:k < (seErrs is l).length:=by rw[seErrs_length];exact h
 exact take_zero_succ hk h0 (by rw[seErrs_get];exact h1)
theorem seErr_all {is:Str->Bool} {l:List Se} (h0:∀ x∈(seErrs is l).take l.length,x=0):seErr is l=0:=by
 rw[List.take_of_length_le (by rw[seErrs_length];exact Nat.le_refl _)] at h0
 exact firstI_zero h0
theorem seOne_name {is:Str->Bool} {s:Se} (h:is (bs s.k)=false):seOne is s=5:=by rw[seOne,if_pos h]
theorem seOne_value {is:Str->Bool} {s:Se} (h:is (bs s.k)=true) (h2:valueL (bs s.v)=false):seOne is s=2:=by rw[seOne,if_neg (by rw[h];decide),if_pos h2]
theorem seOne_ok {is:Str->Bool} {s:Se} (h:is (bs s.k)=true) (h2:valueL (bs s.v)=true):seOne is s=0:=by rw[seOne,if_neg (by rw[h];decide),if_neg (by rw[h2];decide)]
def SmallE (l:List Se):Prop:=∀ s∈l,s.k.size<=2097152∧s.v.size<=2097152
end
section
open Go.RowKit
open Go.Maps (Keyed)
def tblN (l:List Se) (k:Nat):Str->Option Str:=(l.take k).foldl (fun f s x=>if x=bs s.k then some (bs s.v) else f x) (fun _=>none)
def tbl (l:List Se):Str->Option Str:=tblN l l.length
theorem tblN_zero (l:List Se):tblN l 0=fun _=>none:=rfl
theorem tblN_succ {l:List Se} {k:Nat} (h:k < l.length):tblN l (k+1)=fun x=>if x=bs l[k].k then some (bs l[k].v) else tblN l k x:=by
 unfold tblN
 rw[List.take_add_one,List.getElem?_eq_getElem h,Option.toList_some,List.foldl_append]
 rfl
end
section
open Go.RowKit
set_option maxHeartbeats 4000000 in
theorem Facts_any (A:Option Addr) (n c:Nat) (l:List Se) (w:World) (hn:l.length=n) (hr:RdE w A l) (hs:SmallE l) (hl:n<=2097152) :
 Calls Tryz.prog 56 #[.slice A n c] w fun e w'=>e=.returned (.map (some w.heap.size))∧StrMap w' w.heap.size n (tbl l)∧Ext w w':=by
 have HN:=Hy hn
 have hmm:=@run_makeMap Tryz.prog
 have hmade:=StrMap.made w
 have hxm:Ext w (w.alloc (.map #[] 0)):=(Ext.refl w).alloc _
 rcases Nat.eq_zero_or_pos n with h0|h0
 ·subst h0
  have he:l=[]:=List.eq_nil_of_length_eq_zero hn
  have hT:tbl l=fun _=>none:=by rw[he];rfl
  have HT:=Hy hT
  clear he hT hr hs hn
  go_enter Tryz.func56,Tryz.ntmps56
  go_wp2
  go_loop [9] (fun i=>i=.int .i64 0) (fun i=>0)
  case atStart=>rfl
  case round =>
   subst hrel
   go_wp2
   go_ret
   exact⟨rfl,by rw[HT.out];exact hmade,hxm⟩
 obtain⟨b,o,rfl,hX⟩:=hr (fun e=>by rw[e] at hn;simp at hn;omega)
 clear hr hn
 go_enter Tryz.func56,Tryz.ntmps56
 go_wp2
 go_loopw [9] (fun i wr=>∃ k:Nat,k<=n∧i=.int .i64 k∧StrMap wr w.heap.size k (tblN l k)∧Ext w wr) (fun i _=>n - (intOf i).toNat)
 case atStart=>exact⟨0,Nat.zero_le _,rfl,by rw[tblN_zero];exact hmade,hxm⟩
 case round =>
  obtain⟨k,hk,rfl,hM,hxr⟩:=hrel
  by_cases hlt:k < n
  ·have hk1:k < l.length:=by rw[HN.out];exact hlt
   have X:=hX.ext hxr
   have x0:=X.c0 k hk1
   have x1:=X.c1 k hk1
   have hz1:=hs l[k] (List.getElem_mem hk1)
   have HS:=Hy (tblN_succ hk1)
   generalize l[k]=s at *
   obtain⟨sk,sv⟩:=s
   dsimp only at x0 x1 hz1 HS
   obtain⟨hz1,hz2⟩:=hz1
   clear X
   obtain⟨w',hrun,hM',hg⟩:=(hM.ext ((Ext.refl wr).alloc (.cells #[.string sk,.string sv] 65))).upd (t:=95) Tryz.underlying95 sk sv hz1 hz2 (by omega)
   have hxn:Ext w w':=Below.grown (hxr.alloc (.cells #[.string sk,.string sv] 65)) hg (Nat.le_trans hxr.size (by rw[World.size_alloc];omega)) (fun j hj=>by simp only[Option.some.injEq] at hj;omega)
   have HX:=Hy hxn
   have HM:=Hy hM'
   clear hM hM' hg hxn
   go_wp2
   go_roundw
   case rel=>exact⟨k+1,by omega,by go_num,by rw[HS.out];exact HM.out,HX.out⟩
   case measure=>simp[intOf];omega
  ·obtain rfl:k=n:=by omega
   have HT:=Hy (show tblN l k=tbl l from by rw[tbl,HN.out])
   go_wp2
   go_ret
   exact⟨rfl,by rw[<-HT.out];exact hM,hxr⟩
end
section
open Go.RowKit
theorem Holds1_any (A:Option Addr) (n c:Nat) (w:World) :
 Calls Tryz.prog 259 #[.slice A n c] w fun e w'=>e=.returned (.func (.func 260) #[] #[.pointer (some ⟨w.heap.size,0,none⟩)])∧w'=w.alloc (.cells #[.slice A n c] 56):=by
 go_enter Tryz.func259,Tryz.ntmps259
 go_wp2
 go_ret
 exact⟨rfl,rfl⟩
end
section
open Go.ChangeShapes Go.WideShapes Go.ChangeAt Go.RowKit Go.WideElems Go.Joins
instance:Inhabited Se:=⟨zeroSe⟩
set_option maxRecDepth 100000 in
theorem opens_setting:Opens 65 (fun _ (s:Se) cs=>cs=[.string s.k,.string s.v]) (fun s=>s.k.size+s.v.size+2):=fun H enc W fuel cs x h=>by
 obtain⟨y0,y1,n,rfl,hl,h0,h1⟩:=trod_struct2 Tryz.underlying65 h
 have hc:Tryz.prog.cellsOf 65=2:=by kernel_rfl
 have cst:Tryz.prog.cellsOf 9=1:=by kernel_rfl
 rw[hc] at hl
 match cs,hl with
 | [c0,c1],_ =>
   dsimp only at h0 h1
   rw[cst] at h0 h1
   obtain⟨a,e1,b1⟩:=opens_string Tryz.underlying9 H enc W n _ _ h0
   obtain⟨b,e2,b2⟩:=opens_string Tryz.underlying9 H enc W n _ _ h1
   simp at e1 e2
   subst e1 e2
   exact⟨⟨a,b⟩,rfl,by dsimp only at b1 b2 ⊢;simp only[Rows.uptoBulk,Rows.uptoBulkAll];omega⟩
theorem rowOf_settings {W:World} {A:Option Addr} {l:List Se} (h:RowOf (fun _ (s:Se) cs=>cs=[.string s.k,.string s.v]) 2 W A l):RdE W A l:=fun hne=>by
 obtain⟨b,o,rfl,hc⟩:=h hne
 refine⟨b,o,rfl,?_,?_⟩<;>intro k hk<;>obtain⟨ecs,rfl,_,hj⟩:=hc k hk
 ·exact hj 0 (by omega)
 ·exact hj 1 (by omega)
set_option maxRecDepth 100000 in
theorem open_settings {H:Type} {enc:TypeId × Value->H} {W:World} {base:Nat} {v:Value} {d:DataW H} {p:List MemPlace} (hv:Value.okWide Tryz.prog W .any base 56 v) (h:DataW.Trod enc Tryz.prog W 0 (fun _=>true) true 56 v d p) :
 ∃ A c l,v=.slice A l.length c∧RdE W A l∧(∀ s∈l,s.k.size+s.v.size<=Rows.uptoBulk d)∧l.length * 2<=Rows.uptoBulk d:=by
 obtain⟨a,len,cap,rfl⟩:=okWide_slice Tryz.underlying56 hv
 obtain⟨fuel,hf⟩:=h
 obtain⟨l,⟨A,c,e,hr⟩,hb⟩:=opens_slice (sz:=2) Tryz.underlying56 (by kernel_rfl) (by decide) opens_setting H enc W fuel _ _ hf
 refine⟨A,c,l,?_,rowOf_settings hr,fun s hs=>?_,?_⟩
 ·have e:[Value.slice a len cap]=[.slice A l.length c]:=e
  injection e
 ·have:=sum_mem (bk:=fun s:Se=>s.k.size+s.v.size+2) hs
  dsimp only at this hb
  omega
 ·have:=sum_len (bk:=fun s:Se=>s.k.size+s.v.size+2) (c:=2) (fun a=>by omega) l
  dsimp only at this hb
  omega
end
section
open Go.RowKit
theorem ge_not (x:Int):(!decide (0<=x))=decide (x < 0):=by
 rw[Bool.eq_iff_iff];simp
set_option maxHeartbeats 4000000 in
theorem within_any (s:Sp) (v:V4) (w:World) (hg:Good w) (h1:s.f.a.size<=2097152) (h2:s.t.a.size<=2097152) (h3:v.a.size<=2097152) :
 Calls Tryz.prog 328 #[spV s,verV v] w fun e w'=>e=.returned (.bool (insideL s v))∧Ext w w':=by
 obtain⟨hf,ht,⟨f1,f2,f3,fa⟩,⟨t1,t2,t3,ta⟩⟩:=s
 obtain⟨v1,v2,v3,va⟩:=v
 dsimp only at h1 h2 h3
 have cF:=fun W (h:Ext w W)=>Order_any v1 v2 v3 f1 f2 f3 va fa W (hg.ext h) h3 h1
 have cT:=fun W (h:Ext w W)=>Order_any v1 v2 v3 t1 t2 t3 va ta W (hg.ext h) h3 h2
 have hi:insideL ⟨hf,ht,⟨f1,f2,f3,fa⟩,⟨t1,t2,t3,ta⟩⟩ ⟨v1,v2,v3,va⟩=(!(hf&&decide (orderL v1 v2 v3 (bs va) f1 f2 f3 (bs fa) < 0))&&!(ht&&decide (0<=orderL v1 v2 v3 (bs va) t1 t2 t3 (bs ta)))):=rfl
 rw[hi]
 generalize orderL v1 v2 v3 (bs va) f1 f2 f3 (bs fa)=OF at *
 generalize orderL v1 v2 v3 (bs va) t1 t2 t3 (bs ta)=OT at *
 have CF:=Hy cF;have CT:=Hy cT
 clear cF cT hi
 cases hf
 ·cases ht
  ·go_enter Tryz.func328,Tryz.ntmps328
   go_wp2
   go_ret
   exact⟨rfl,Ext.au⟩
  ·go_enter Tryz.func328,Tryz.ntmps328
   go_wp2_with fail
   refine (CT.out _ Ext.au).mono ?_
   rintro e w1 ⟨rfl,hx1⟩
   go_wp2
   go_ret
   refine⟨ret_bool ?_,Ext.trans Ext.au hx1⟩
   simp[ge_not]
 ·by_cases hF:0<=OF
  ·have hF2:¬ OF < 0:=by omega
   have HF:=Hy hF2
   clear hF2
   cases ht
   ·go_enter Tryz.func328,Tryz.ntmps328
    go_wp2_with fail
    refine (CF.out _ Ext.au).mono ?_
    rintro e w1 ⟨rfl,hx1⟩
    have b1:=((Blk.new w 147 #[.bool true,.bool false,.int .i64 f1,.int .i64 f2,.int .i64 f3,.string fa,.int .i64 t1,.int .i64 t2,.int .i64 t3,.string ta]).alloc (.cells #[.int .i64 v1,.int .i64 v2,.int .i64 v3,.string va] 23)).ext hx1
    have c1:=b1.cell
    have l1:=b1.lt
    go_wp2
    go_ret
    refine⟨ret_bool ?_,Ext.trans Ext.au hx1⟩
    simp[HF.out]
   ·go_enter Tryz.func328,Tryz.ntmps328
    go_wp2_with fail
    refine (CF.out _ Ext.au).mono ?_
    rintro e w1 ⟨rfl,hx1⟩
    have b1:=((Blk.new w 147 #[.bool true,.bool true,.int .i64 f1,.int .i64 f2,.int .i64 f3,.string fa,.int .i64 t1,.int .i64 t2,.int .i64 t3,.string ta]).alloc (.cells #[.int .i64 v1,.int .i64 v2,.int .i64 v3,.string va] 23)).ext hx1
    have b2:=(Blk.new (w.alloc (.cells #[.bool true,.bool true,.int .i64 f1,.int .i64 f2,.int .i64 f3,.string fa,.int .i64 t1,.int .i64 t2,.int .i64 t3,.string ta] 147)) 23 #[.int .i64 v1,.int .i64 v2,.int .i64 v3,.string va]).ext hx1
    rw[World.size_alloc] at b2
    have c1:=b1.cell;have c2:=b2.cell
    have l1:=b1.lt;have l2:=b2.lt
    have hxa:Ext w w1:=Ext.trans Ext.au hx1
    go_wp2_with fail
    refine (CT.out _ hxa).mono ?_
    rintro e w2 ⟨rfl,hx2⟩
    go_wp2
    go_ret
    refine⟨ret_bool ?_,hxa.trans hx2⟩
    have e:decide (OF < 0)=false:=decide_eq_false (by have:=HF.out;omega)
    simp[e,ge_not]
  ·have hF2:OF < 0:=by omega
   have HF:=Hy hF2
   clear hF2
   go_enter Tryz.func328,Tryz.ntmps328
   go_wp2_with fail
   refine (CF.out _ Ext.au).mono ?_
   rintro e w1 ⟨rfl,hx1⟩
   go_wp2
   go_ret
   refine⟨ret_bool ?_,Ext.trans Ext.au hx1⟩
   simp
def nearL (h:Bool) (e v:V4):Bool:=h&&!decide (e.a.size=0)&&decide (e.a1=v.a1)&&decide (e.a2=v.a2)&&decide (e.a3=v.a3)
set_option maxHeartbeats 4000000 in
theorem names_any (h:Bool) (e v:V4) (w:World) :
 Calls Tryz.prog 329 #[.bool h,verV e,verV v] w fun r w'=>r=.returned (.bool (nearL h e v))∧Ext w w':=by
 obtain⟨e1,e2,e3,ea⟩:=e
 obtain⟨v1,v2,v3,va⟩:=v
 have hN:nearL h ⟨e1,e2,e3,ea⟩ ⟨v1,v2,v3,va⟩=(h&&!decide (ea.size=0)&&decide (e1=v1)&&decide (e2=v2)&&decide (e3=v3)):=rfl
 rw[hN]
 clear hN
 cases h
 ·go_enter Tryz.func329,Tryz.ntmps329
  go_wp2
  go_ret
  exact⟨rfl,Ext.au⟩
 rcases Nat.eq_zero_or_pos ea.size with h0|h0
 ·have hl:=emp_of_size h0
  have hb:=emp_bool h0
  have H0:=Hy h0
  clear h0
  go_enter Tryz.func329,Tryz.ntmps329
  go_wp2
  go_ret
  refine⟨ret_bool ?_,Ext.au⟩
  simp[H0.out]
 ·have hl:=nemp_of_size h0
  have hb:=nemp_bool h0
  have H0:=Hy (show ¬ ea.size=0 by omega)
  by_cases q1:e1=v1
  ·subst q1
   by_cases q2:e2=v2
   ·subst q2
    go_enter Tryz.func329,Tryz.ntmps329
    go_wp2
    go_ret
    refine⟨ret_bool ?_,Ext.au⟩
    simp[H0.out]
    by_cases q3:e3=v3<;>simp[q3]
   ·go_enter Tryz.func329,Tryz.ntmps329
    go_wp2
    go_ret
    refine⟨ret_bool ?_,Ext.au⟩
    simp[q2]
  ·go_enter Tryz.func329,Tryz.ntmps329
   go_wp2
   go_ret
   refine⟨ret_bool ?_,Ext.au⟩
   simp[q1]
end
section
open Go.RowKit
theorem any_at {α:Type} {p:α->Bool} {l:List α} {k:Nat} (h:k < l.length) (e:p l[k]=true):l.any p=true:=List.any_eq_true.2 ⟨_,List.getElem_mem h,e⟩
theorem any_none {α:Type} {p:α->Bool} {l:List α} (h:∀ k (hk:k < l.length),p l[k]=false):l.any p=false:=by
 rw[List.any_eq_false]
 intro s hs
 obtain⟨k,hk,rfl⟩:=List.mem_iff_getElem.1 hs
 rw[h k hk]
 decide
set_option maxHeartbeats 4000000 in
theorem IndexFuncS_any (A:Option Addr) (n c:Nat) (l:List Sp) (f:FuncId) (lb:Array Value) (p:Sp->Bool) (w:World) (hn:l.length=n) (hr:RdS w A l) (hl:n<=2097152)
 (hen:∀ xs w,Sem.run Tryz.prog (callFunc f xs) w=.ok (.enter f xs) w)
 (hp:∀ k (hk:k < l.length) W,Ext w W->Calls Tryz.prog f (#[spV l[k]]++lb) W fun e w'=>e=.returned (.bool (p l[k]))∧Ext W w') :
 Calls Tryz.prog 312 #[.slice A n c,.func (.func f) #[] lb] w fun e w'=>∃ z:Int,e=.returned (.int .i64 z)∧(0<=z↔l.any p=true)∧Ext w w':=by
 have HN:=Hy hn
 have HP:=Hy hp
 clear hn hp
 go_enter Tryz.func312,Tryz.ntmps312
 go_wp2
 go_loopw [8] (fun i wr=>∃ k:Nat,k<=n∧i=.int .i64 k∧Hid (∀ j (hj:j < l.length),j < k->p l[j]=false)∧Ext w wr) (fun i _=>n - (intOf i).toNat)
 case atStart=>exact⟨0,Nat.zero_le _,rfl,fun j _ h=>absurd h (Nat.not_lt_zero _),Ext.refl _⟩
 case round =>
  obtain⟨k,hk,rfl,HALL,hxr⟩:=hrel
  by_cases hlt:k < n
  ·have hk1:k < l.length:=by rw[HN.out];exact hlt
   obtain⟨b,o,rfl,hX⟩:=hr (fun e=>by rw[e] at hk1;exact absurd hk1 (Nat.not_lt_zero _))
   have X:=hX.ext hxr
   have x0:=X.c0 k hk1;have x1:=X.c1 k hk1;have x2:=X.c2 k hk1;have x3:=X.c3 k hk1;have x4:=X.c4 k hk1
   have x5:=X.c5 k hk1;have x6:=X.c6 k hk1;have x7:=X.c7 k hk1;have x8:=X.c8 k hk1;have x9:=X.c9 k hk1
   have HNX:=Hy (show p l[k]=false->∀ j (hj:j < l.length),j < k+1->p l[j]=false from fun e j hj h=>by
    by_cases hjk:j=k
    ·subst hjk;exact e
    ·exact HALL.out j hj (by omega))
   have HYES:=Hy (fun e=>any_at (p:=p) hk1 e)
   have hc:=HP.out k hk1
   clear X
   generalize p l[k]=r at *
   generalize l[k]=s at *
   obtain⟨hf,ht,⟨f1,f2,f3,fa⟩,⟨t1,t2,t3,ta⟩⟩:=s
   dsimp only[spV] at x0 x1 x2 x3 x4 x5 x6 x7 x8 x9 hc
   have HC:=Hy hc
   clear hc
   go_wp2_with fail
   refine (HC.out _ hxr).mono ?_
   rintro e w1 ⟨rfl,hx1⟩
   cases r
   ·have HF:=Hy (HNX.out rfl)
    go_wp2
    go_roundw
    case rel=>exact⟨k+1,by omega,by go_num,HF.out,hxr.trans hx1⟩
    case measure=>simp[intOf];omega
   ·have HF:=Hy (HYES.out rfl)
    go_wp2
    go_ret
    exact⟨(k:Int),rfl,⟨fun _=>HF.out,fun _=>by omega⟩,hxr.trans hx1⟩
  ·obtain rfl:k=n:=by omega
   have HF:=Hy (any_none (p:=p) fun j hj=>HALL.out j hj (by have:=HN.out;omega))
   go_wp2
   go_ret
   exact⟨-1,rfl,⟨fun h=>by omega,fun h=>by rw[HF.out] at h;cases h⟩,hxr⟩
set_option maxHeartbeats 4000000 in
theorem ContainsFuncS_any (A:Option Addr) (n c:Nat) (l:List Sp) (f:FuncId) (lb:Array Value) (p:Sp->Bool) (w:World) (hn:l.length=n) (hr:RdS w A l) (hl:n<=2097152)
 (hen:∀ xs w,Sem.run Tryz.prog (callFunc f xs) w=.ok (.enter f xs) w)
 (hp:∀ k (hk:k < l.length) W,Ext w W->Calls Tryz.prog f (#[spV l[k]]++lb) W fun e w'=>e=.returned (.bool (p l[k]))∧Ext W w') :
 Calls Tryz.prog 271 #[.slice A n c,.func (.func f) #[] lb] w fun e w'=>e=.returned (.bool (l.any p))∧Ext w w':=by
 have CI:=Hy (IndexFuncS_any A n c l f lb p w hn hr hl hen hp)
 clear hn hr hp
 generalize l.any p=r at *
 go_enter Tryz.func271,Tryz.ntmps271
 go_wp2_with fail
 refine CI.out.mono ?_
 rintro e w1 ⟨z,rfl,hz,hx1⟩
 have HZ:=Hy hz
 clear hz
 go_wp2
 go_ret
 refine⟨ret_bool ?_,hx1⟩
 have h:=HZ.out
 cases r
 ·have:¬ 0<=z:=fun e=>by have:=h.1 e;cases this
  simp;omega
 ·have:=h.2 rfl
  simp;omega
set_option maxHeartbeats 8000000 in
theorem Inside_any (s:Sp) (v:V4) (w:World) (hg:GoodN w) (h1:s.f.a.size<=2097152) (h2:s.t.a.size<=2097152) (h3:v.a.size<=2097152) (e1:s.f.err=0) (e2:s.t.err=0) (e3:v.err=0) :
 Calls Tryz.prog 273 #[spV s,verV v] w fun e w'=>e=.returned (.bool (insideL s v))∧Ext w w':=by
 have cF:=fun W (h:Ext w W)=>CompareOf_any v.a1 v.a2 v.a3 s.f.a1 s.f.a2 s.f.a3 v.a s.f.a W (hg.ext h) h3 h1 e3 e1
 have cT:=fun W (h:Ext w W)=>CompareOf_any v.a1 v.a2 v.a3 s.t.a1 s.t.a2 s.t.a3 v.a s.t.a W (hg.ext h) h3 h2 e3 e2
 have hi:insideL s v=(!(s.hf&&decide (orderL v.a1 v.a2 v.a3 (bs v.a) s.f.a1 s.f.a2 s.f.a3 (bs s.f.a) < 0))&&!(s.ht&&decide (0<=orderL v.a1 v.a2 v.a3 (bs v.a) s.t.a1 s.t.a2 s.t.a3 (bs s.t.a)))):=rfl
 rw[hi]
 generalize orderL v.a1 v.a2 v.a3 (bs v.a) s.f.a1 s.f.a2 s.f.a3 (bs s.f.a)=OF at *
 generalize orderL v.a1 v.a2 v.a3 (bs v.a) s.t.a1 s.t.a2 s.t.a3 (bs s.t.a)=OT at *
 obtain⟨hf,ht,⟨f1,f2,f3,fa⟩,⟨t1,t2,t3,ta⟩⟩:=s
 obtain⟨v1,v2,v3,va⟩:=v
 dsimp only[spV,verV] at cF cT ⊢
 have CF:=Hy cF;have CT:=Hy cT
 clear cF cT hi e1 e2 e3
 have b1:=(Blk.new w 147 #[.bool hf,.bool ht,.int .i64 f1,.int .i64 f2,.int .i64 f3,.string fa,.int .i64 t1,.int .i64 t2,.int .i64 t3,.string ta]).alloc (.cells #[.int .i64 v1,.int .i64 v2,.int .i64 v3,.string va] 23)
 have b2:=Blk.new (w.alloc (.cells #[.bool hf,.bool ht,.int .i64 f1,.int .i64 f2,.int .i64 f3,.string fa,.int .i64 t1,.int .i64 t2,.int .i64 t3,.string ta] 147)) 23 #[.int .i64 v1,.int .i64 v2,.int .i64 v3,.string va]
 rw[World.size_alloc] at b2
 have hx0:Ext w ((w.alloc (.cells #[.bool hf,.bool ht,.int .i64 f1,.int .i64 f2,.int .i64 f3,.string fa,.int .i64 t1,.int .i64 t2,.int .i64 t3,.string ta] 147)).alloc (.cells #[.int .i64 v1,.int .i64 v2,.int .i64 v3,.string va] 23)):=((Ext.refl w).alloc _).alloc _
 -- the second half,from whatever world
 cases hf
 ·cases ht
  ·go_enter Tryz.func273,Tryz.ntmps273
   go_wp2
   go_ret
   exact⟨rfl,hx0⟩
  ·go_enter Tryz.func273,Tryz.ntmps273
   go_wp2_with fail
   refine (CT.out _ hx0).mono ?_
   rintro e w1 ⟨rfl,hx1⟩
   go_wp2
   go_ret
   refine⟨ret_bool ?_,hx0.trans hx1⟩
   simp
 ·cases ht
  ·go_enter Tryz.func273,Tryz.ntmps273
   go_wp2_with fail
   refine (CF.out _ hx0).mono ?_
   rintro e w1 ⟨rfl,hx1⟩
   have c1:=(b1.ext hx1).cell;have c2:=(b2.ext hx1).cell;have l1:=(b1.ext hx1).lt;have l2:=(b2.ext hx1).lt
   by_cases hF:OF < 0
   ·have HF:=Hy hF
    go_wp2
    go_ret
    refine⟨ret_bool ?_,hx0.trans hx1⟩
    simp[HF.out]
   ·have HF:=Hy hF
    go_wp2
    go_ret
    refine⟨ret_bool ?_,hx0.trans hx1⟩
    have:=HF.out
    first|(simp;done)|(simp;omega)
  ·go_enter Tryz.func273,Tryz.ntmps273
   go_wp2_with fail
   refine (CF.out _ hx0).mono ?_
   rintro e w1 ⟨rfl,hx1⟩
   have c1:=(b1.ext hx1).cell;have c2:=(b2.ext hx1).cell;have l1:=(b1.ext hx1).lt;have l2:=(b2.ext hx1).lt
   by_cases hF:OF < 0
   ·have HF:=Hy hF
    go_wp2
    go_ret
    refine⟨ret_bool ?_,hx0.trans hx1⟩
    simp[HF.out]
   ·have HF:=Hy (decide_eq_false hF)
    go_wp2_with fail
    refine (CT.out _ (hx0.trans hx1)).mono ?_
    rintro e w2 ⟨rfl,hx2⟩
    go_wp2
    go_ret
    refine⟨ret_bool ?_,(hx0.trans hx1).trans hx2⟩
    simp[HF.out]
end
section
theorem part_kind {k:Int} {n x:Str} {m:Nat} (h:partErr k n x m=0):1<=k∧k<=8:=by
 unfold partErr at h
 split at h
 ·cases h
 ·omega
theorem part_form {k:Int} {n x:Str} {m:Nat} (h:partErr k n x m=0):formBad k n x m=false:=by
 have hk:=part_kind h
 unfold partErr at h
 rw[if_neg (by omega)] at h
 split at h
 ·cases h
 ·rename_i hf;exact (Bool.not_eq_true _).mp hf
theorem form_leaf {k:Int} {n x:Str} {m:Nat} (h:formBad k n x m=false):(namedK k=false->n=[])∧(valuedK k=false->x=[])∧(k < 6->m=0)∧(k=6->m=1):=by
 unfold formBad at h
 simp only[Bool.or_eq_false_iff,Bool.and_eq_false_iff,Bool.not_eq_false',decide_eq_false_iff_not,List.isEmpty_iff,decide_eq_true_eq] at h
 obtain⟨⟨⟨h1,h2⟩,h3⟩,h4⟩:=h
 refine⟨fun e=>?_,fun e=>?_,fun e=>?_,fun e=>?_⟩
 ·rcases h1 with h|h
  ·rw[e] at h;cases h
  ·exact h
 ·rcases h2 with h|h
  ·rw[e] at h;cases h
  ·exact h
 ·rcases h3 with h|h<;>omega
 ·rcases h4 with h|h
  ·exact absurd e h
  ·exact h
end
section
theorem firstE_zero:∀ {l:List (Cd × Nat)},firstErr l=0->∀ p∈l,partC p.1=0
 | q::r,h,p,hp=>by
   rw[firstErr] at h
   by_cases hq:partC q.1=0
   ·rw[if_pos hq] at h
    rcases List.mem_cons.1 hp with rfl|hp
    ·exact hq
    ·exact firstE_zero h p hp
   ·rw[if_neg hq] at h;exact absurd h hq
theorem prts_mem (lev:Nat):∀ {l:List Cd} {c:Cd},c∈l->∀ p∈prt lev c,p∈prts lev l
 | d::l,c,h,p,hp=>by
   rw[prts,List.mem_append]
   rcases List.mem_cons.1 h with rfl|h
   ·exact .inl hp
   ·exact .inr (prts_mem lev h p hp)
theorem ok_levels:∀ (m lev:Nat) (c:Cd),lev+m=100->(∀ p∈prt lev c,partC p.1=0∧p.2<=20)->OkD m c:=by
 intro m
 induction m with
 | zero =>
   intro lev c hl h
   obtain⟨k,n,x,l⟩:=c
   have:=(h (.mk k n x l,lev) (by rw[prt];simp)).2
   dsimp only at this
   omega
 | succ m ih =>
   intro lev c hl h
   obtain⟨k,n,x,l⟩:=c
   refine⟨(h (.mk k n x l,lev) (by rw[prt];simp)).1,fun c hc=>ih (lev+1) c (by omega) fun p hp=>h p ?_⟩
   rw[prt,List.mem_cons]
   exact .inr (prts_mem (lev+1) hc p hp)
theorem ok_of_check {c:Cd} (h:checkC c=0):OkD 100 c:=by
 unfold checkC at h
 by_cases h1:100 < cnt c
 ·rw[if_pos h1] at h;cases h
 rw[if_neg h1] at h
 by_cases h2:firstErr (prt 0 c)=0
 ·rw[if_neg (by simpa using h2)] at h
  by_cases h3:(prt 0 c).any (fun p=>decide (20 < p.2))=true
  ·rw[if_pos h3] at h;cases h
  ·refine ok_levels 100 0 c rfl fun p hp=>⟨firstE_zero h2 p hp,?_⟩
   refine Nat.le_of_not_lt fun hlt=>h3 (List.any_eq_true.2 ⟨p,hp,decide_eq_true hlt⟩)
 ·rw[if_pos h2] at h;exact absurd h h2
end
section
theorem pathL_len {l:Str} (h:pathL l=true):l.length<=200:=by
 unfold pathL at h
 simp only[Bool.and_eq_true,decide_eq_true_eq] at h
 exact h.2
theorem part_sizes {k:Int} {n x:Str} {m:Nat} (h:partErr k n x m=0):n.length<=200∧x.length<=1000:=by
 have hk:=part_kind h
 have hf:=part_form h
 obtain⟨f1,f2,_,_⟩:=form_leaf hf
 by_cases hn:namedK k=true
 ·unfold partErr at h
  rw[if_neg (by omega),if_neg (by rw[hf];decide),if_neg (by rw[hn];decide)] at h
  by_cases hx:(!(if k=3∨k=4 then pathL n else nameL n))=true
  ·rw[if_pos hx] at h;cases h
  ·rw[if_neg hx] at h
   have h1:n.length<=200:=by
    by_cases h34:k=3∨k=4
    ·rw[if_pos h34] at hx;exact pathL_len (by simpa using hx)
    ·rw[if_neg h34] at hx
     have hx:nameL n=true:=by simpa using hx
     unfold nameL eachL at hx
     simp only[Bool.and_eq_true,decide_eq_true_eq] at hx
     omega
   by_cases hv:(!valueL x)=true
   ·rw[if_pos hv] at h;cases h
   ·have hv:valueL x=true:=by simpa using hv
    unfold valueL at hv
    simp only[Bool.and_eq_true,decide_eq_true_eq] at hv
    exact⟨h1,hv.2⟩
 ·have hn:namedK k=false:=by simpa using hn
  rw[f1 hn,f2 (by unfold valuedK;rw[hn];rfl)]
  exact⟨Nat.zero_le _,Nat.zero_le _⟩
theorem part_range {n x:Str} {m:Nat} (h:partErr 5 n x m=0):(parseR x).2=0:=by
 have hf:=part_form h
 unfold partErr at h
 rw[if_neg (by decide),if_neg (by rw[hf];decide),if_neg (by decide)] at h
 by_cases hx:(!(if (5:Int)=3∨(5:Int)=4 then pathL n else nameL n))=true
 ·rw[if_pos hx] at h;cases h
 ·rw[if_neg hx] at h
  by_cases hv:(!valueL x)=true
  ·rw[if_pos hv] at h;cases h
  ·rw[if_neg hv,if_pos rfl] at h
   exact h
end
section
theorem cmpB_lt:∀ a b:Str,Lib.compareBytes a b < 0↔a < b
 | [],[]=>by simp[Lib.compareBytes]
 | [],b::rb=>by simp[Lib.compareBytes]
 | a::ra,[]=>by simp[Lib.compareBytes]
 | a::ra,b::rb=>by
   unfold Lib.compareBytes
   rw[List.cons_lt_cons_iff]
   by_cases h:a < b
   ·simp[h]
   ·by_cases h2:b < a
    ·rw[if_neg h,if_pos h2]
     constructor
     ·intro h3;omega
     ·rintro (h3|⟨rfl,_⟩)
      ·exact absurd h3 h
      ·exact absurd h2 (UInt8.lt_irrefl _)
    ·rw[if_neg h,if_neg h2,cmpB_lt ra rb]
     obtain rfl:a=b:=UInt8.le_antisymm (UInt8.not_lt.1 h2) (UInt8.not_lt.1 h)
     constructor
     ·intro h3;exact .inr ⟨rfl,h3⟩
     ·rintro (h3|⟨_,h3⟩)
      ·exact absurd h3 h
      ·exact h3
theorem cmpB_zero:∀ a b:Str,Lib.compareBytes a b=0↔a=b
 | [],[]=>by simp[Lib.compareBytes]
 | [],b::rb=>by simp[Lib.compareBytes]
 | a::ra,[]=>by simp[Lib.compareBytes]
 | a::ra,b::rb=>by
   unfold Lib.compareBytes
   by_cases h:a < b
   ·rw[if_pos h]
    constructor
    ·intro h3;omega
    ·intro h3;injection h3 with h3 _;subst h3;exact absurd h (UInt8.lt_irrefl _)
   ·by_cases h2:b < a
    ·rw[if_neg h,if_pos h2]
     constructor
     ·intro h3;omega
     ·intro h3;injection h3 with h3 _;subst h3;exact absurd h2 (UInt8.lt_irrefl _)
    ·rw[if_neg h,if_neg h2,cmpB_zero ra rb]
     obtain rfl:a=b:=UInt8.le_antisymm (UInt8.not_lt.1 h2) (UInt8.not_lt.1 h)
     simp
theorem firstI_all:∀ {l:List Int},firstI l=0->∀ x∈l,x=0
 | [],_=>by simp
 | y::l,h=>by
   unfold firstI at h
   by_cases hy:y=0
   ·rw[if_pos hy] at h
    intro x hx
    rcases List.mem_cons.1 hx with rfl|hx
    ·exact hy
    ·exact firstI_all h x hx
   ·rw[if_neg hy] at h;exact absurd h hy
theorem seErr_asc {is:Str->Bool} {l:List Se} (h:seErr is l=0):Asc l:=by
 have h1:∀ k (hk:k+1 < l.length),bs (l[k]'(by omega)).k < bs l[k+1].k:=fun k hk=>by
  have h0:=firstI_all h (seAt is l (k+1)) (by
   rw[<-seErrs_get is l (k+1) (by rw[seErrs_length];exact hk)]
   exact List.getElem_mem _)
  have h2:seOne is l[k+1]=0:=by
   by_cases e:seOne is l[k+1]=0
   ·exact e
   ·rw[seAt_bad hk e] at h0;exact h0
  rw[seAt_gap hk h2,seGap] at h0
  by_cases hb:(Op.bytesLess l[k+1].k.toList l[k].k.toList||l[k+1].k.toList==l[k].k.toList)=true
  ·rw[if_pos hb] at h0;cases h0
  ·simp only[ByteArray.toList_eq,Proofs.bytesLess_eq,Bool.or_eq_true,decide_eq_true_eq,beq_iff_eq,not_or] at hb
   exact strLt_of hb.1 hb.2
 suffices ∀ d i (hd:i+(d+1) < l.length),bs (l[i]'(by omega)).k < bs l[i+(d+1)].k from fun i j hj hi=>by
  obtain⟨d,rfl⟩:∃ d,j=i+(d+1):=⟨j - i - 1,by omega⟩
  exact this d i hj
 intro d
 induction d with
 | zero=>exact fun i hd=>h1 i hd
 | succ d ih=>exact fun i hd=>strLt_trans (ih i (by omega)) (h1 (i+(d+1)) hd)
theorem tbl_some {l:List Se} (ha:Asc l):∀ N,N<=l.length->∀ i (_h:i < N) (hl:i < l.length),tblN l N (bs l[i].k)=some (bs l[i].v)
 | 0,_,_,h,_=>absurd h (Nat.not_lt_zero _)
 | N+1,hN,i,h,hl=>by
   rw[tblN_succ (show N < l.length by omega)]
   dsimp only
   by_cases e:i=N
   ·subst e;rw[if_pos rfl]
   ·have:=ha i N (by omega) (by omega)
    rw[if_neg (fun e2=>by rw[e2] at this;exact strLt_irrefl _ this)]
    exact tbl_some ha N (by omega) i (by omega) hl
theorem tbl_none {l:List Se} {x:Str}:∀ N (hN:N<=l.length),(∀ i (h:i < N),x≠bs (l[i]'(by omega)).k)->tblN l N x=none
 | 0,_,_=>rfl
 | N+1,hN,h=>by
   rw[tblN_succ (show N < l.length by omega)]
   dsimp only
   rw[if_neg (h N (by omega))]
   exact tbl_none N (by omega) fun i hi=>h i (by omega)
def Below_ (l:List Se) (x:Str) (i:Nat):Prop:=∀ k (hk:k < l.length),k < i->bs l[k].k < x
def Above_ (l:List Se) (x:Str) (j:Nat):Prop:=∀ k (hk:k < l.length),j<=k->¬ bs l[k].k < x
theorem below_next {l:List Se} (ha:Asc l) {x:Str} {h:Nat} (hh:h < l.length) (hx:bs l[h].k < x):Below_ l x (h+1):=fun k hk hkh=>by
 by_cases e:k=h
 ·subst e;exact hx
 ·exact strLt_trans (ha k h hh (by omega)) hx
theorem above_next {l:List Se} (ha:Asc l) {x:Str} {h:Nat} (hh:h < l.length) (hx:¬ bs l[h].k < x):Above_ l x h:=fun k hk hkh=>by
 by_cases e:k=h
 ·subst e;exact hx
 ·exact fun h2=>hx (strLt_trans (ha h k hk (by omega)) h2)
theorem search_hit {l:List Se} (ha:Asc l) {x:Str} {i:Nat} (hi:i < l.length) (he:bs l[i].k=x):tbl l x=some (bs l[i].v):=by
 subst he
 exact tbl_some ha l.length (Nat.le_refl _) i hi hi
theorem search_miss {l:List Se} (ha:Asc l) {x:Str} {i:Nat} (hb:Below_ l x i) (hab:Above_ l x i) (he:∀ h:i < l.length,bs l[i].k≠x):tbl l x=none:=by
 refine tbl_none l.length (Nat.le_refl _) fun k hk e=>?_
 by_cases h1:k < i
 ·have:=hb k hk h1
  rw[<-e] at this
  exact strLt_irrefl _ this
 ·by_cases h2:k=i
  ·subst h2;exact he hk e.symm
  ·have:=ha i k hk (by omega)
   rw[<-e] at this
   exact hab i (by omega) (Nat.le_refl _) this
end
section
open Go.RowKit
set_option maxHeartbeats 4000000 in
theorem IndexFuncC_any (A:Option Addr) (c b o:Nat) (P:Nat->Prop) (l:List Cd) (f:FuncId) (lb:Array Value) (p:Cd->Bool) (w:World) (hA:0 < l.length->A=some ⟨b,o,none⟩) (hr:ArgAt P w l b o) (hl:l.length<=100000000)
 (hen:∀ xs w,Sem.run Tryz.prog (callFunc f xs) w=.ok (.enter f xs) w)
 (hp:∀ k (hk:k < l.length) v W,CdIn P W l[k] v->Ext w W->Calls Tryz.prog f (#[v]++lb) W fun e w'=>e=.returned (.bool (p l[k]))∧Ext W w') :
 Calls Tryz.prog 274 #[.slice A l.length c,.func (.func f) #[] lb] w fun e w'=>∃ z:Int,e=.returned (.int .i64 z)∧(0<=z↔l.any p=true)∧Ext w w':=by
 have HP:=Hy hp
 have HA:=Hy hA
 have HR:=Hy hr
 clear hp hA hr
 go_enter Tryz.func274,Tryz.ntmps274
 go_wp2
 go_loopw [8] (fun i wr=>∃ k:Nat,k<=l.length∧i=.int .i64 k∧Hid (∀ j (hj:j < l.length),j < k->p l[j]=false)∧Ext w wr) (fun i _=>l.length - (intOf i).toNat)
 case atStart=>exact⟨0,Nat.zero_le _,rfl,fun j _ h=>absurd h (Nat.not_lt_zero _),Ext.refl _⟩
 case round =>
  obtain⟨k,hk,rfl,HALL,hxr⟩:=hrel
  by_cases hlt:k < l.length
  ·obtain rfl:=HA.out (by omega)
   obtain⟨ck,cn,cx,cA,cm,ccp,x0,x1,x2,x3,hcd⟩:=HR.out.ext hxr k hlt
   have HNX:=Hy (show p l[k]=false->∀ j (hj:j < l.length),j < k+1->p l[j]=false from fun e j hj h=>by
    by_cases hjk:j=k
    ·subst hjk;exact e
    ·exact HALL.out j hj (by omega))
   have HYES:=Hy (fun e=>any_at (p:=p) hlt e)
   have hc:=HP.out k hlt _ _ hcd hxr
   have hlb:=lt_of_cell x0
   clear hcd
   generalize p l[k]=r at *
   have HC:=Hy hc
   clear hc
   go_wp2_with fail
   refine HC.out.mono ?_
   rintro e w1 ⟨rfl,hx1⟩
   cases r
   ·have HF:=Hy (HNX.out rfl)
    go_wp2
    go_roundw
    case rel=>exact⟨k+1,by omega,by go_num,HF.out,hxr.trans hx1⟩
    case measure=>simp[intOf];omega
   ·have HF:=Hy (HYES.out rfl)
    go_wp2
    go_ret
    exact⟨(k:Int),rfl,⟨fun _=>HF.out,fun _=>by omega⟩,hxr.trans hx1⟩
  ·obtain rfl:k=l.length:=by omega
   have HF:=Hy (any_none (p:=p) fun j hj=>HALL.out j hj hj)
   go_wp2
   go_ret
   exact⟨-1,rfl,⟨fun h=>by omega,fun h=>by rw[HF.out] at h;cases h⟩,hxr⟩
set_option maxHeartbeats 4000000 in
theorem ContainsFuncC_any (A:Option Addr) (c b o:Nat) (P:Nat->Prop) (l:List Cd) (f:FuncId) (lb:Array Value) (p:Cd->Bool) (w:World) (hA:0 < l.length->A=some ⟨b,o,none⟩) (hr:ArgAt P w l b o) (hl:l.length<=100000000)
 (hen:∀ xs w,Sem.run Tryz.prog (callFunc f xs) w=.ok (.enter f xs) w)
 (hp:∀ k (hk:k < l.length) v W,CdIn P W l[k] v->Ext w W->Calls Tryz.prog f (#[v]++lb) W fun e w'=>e=.returned (.bool (p l[k]))∧Ext W w') :
 Calls Tryz.prog 226 #[.slice A l.length c,.func (.func f) #[] lb] w fun e w'=>e=.returned (.bool (l.any p))∧Ext w w':=by
 have CI:=Hy (IndexFuncC_any A c b o P l f lb p w hA hr hl hen hp)
 clear hA hr hp
 generalize l.any p=r at *
 go_enter Tryz.func226,Tryz.ntmps226
 go_wp2_with fail
 refine CI.out.mono ?_
 rintro e w1 ⟨z,rfl,hz,hx1⟩
 have HZ:=Hy hz
 clear hz
 go_wp2
 go_ret
 refine⟨ret_bool ?_,hx1⟩
 have h:=HZ.out
 cases r
 ·have:¬ 0<=z:=fun e=>by have:=h.1 e;cases this
  simp;omega
 ·have:=h.2 rfl
  simp;omega
end
section
open Go.RowKit
set_option maxHeartbeats 4000000 in
theorem cmpKey_any (s:Se) (k:ByteArray) (w:World) :
 Calls Tryz.prog 305 #[.agg #[.string s.k,.string s.v],.string k] w fun e w'=>e=.returned (.int .i64 (Lib.compareBytes (bs s.k) (bs k)))∧Ext w w':=by
 go_enter Tryz.func305,Tryz.ntmps305
 go_wp2_with fail
 refine (Tryz.strings_Compare s.k k _).mono ?_
 rintro e w1 ⟨rfl,rfl⟩
 go_wp2
 go_ret
 exact⟨rfl,Ext.au⟩
set_option maxHeartbeats 4000000 in
set_option maxRecDepth 100000 in
theorem BinS_any (A:Option Addr) (n c:Nat) (l:List Se) (key:ByteArray) (w:World) (hn:l.length=n) (hr:RdE w A l) (hl:n<=2097152) (ha:Asc l) :
 Calls Tryz.prog 304 #[.slice A n c,.string key,.func (.func 305) #[] #[]] w fun e w' =>
  ∃ (i:Nat) (r:Bool),e=.returned (.tuple #[.int .i64 i,.bool r])∧(r=true->∃ h:i < l.length,bs l[i].k=bs key)∧(r=false->tbl l (bs key)=none)∧Ext w w':=by
 have hen:∀ xs w,Sem.run Tryz.prog (callFunc 305 xs) w=.ok (.enter 305 xs) w:=fun xs w=>by kernel_rfl
 have HN:=Hy hn
 have HR:=Hy hr
 have HASC:=Hy ha
 clear hn hr ha
 go_enter Tryz.func304,Tryz.ntmps304
 go_wp2
 go_loopg [9,10] n (fun kx s9 s10 wr=>∃ lo hi:Nat,s9=.int .i64 lo∧s10=.int .i64 hi∧lo<=hi∧hi<=n∧hi - lo<=kx∧Ext w wr∧Hid (Below_ l (bs key) lo∧Above_ l (bs key) hi))
 case atStart=>exact⟨0,n,rfl,rfl,Nat.zero_le _,Nat.le_refl _,by omega,Ext.refl _,Hy ⟨fun k _ h=>absurd h (Nat.not_lt_zero _),fun k hk h=>by have:=HN.out;omega⟩⟩
 case round =>
  obtain⟨lo,hi,rfl,rfl,hlh,hin,hg,hxr,I⟩:=hrel
  by_cases hlt:lo < hi
  ·have hk1:(lo+hi) / 2 < l.length:=by rw[HN.out];omega
   obtain⟨b,o,rfl,hX⟩:=HR.out (fun e=>by rw[e] at hk1;exact absurd hk1 (Nat.not_lt_zero _))
   have X:=hX.ext hxr
   have x0:=X.c0 _ hk1
   have x1:=X.c1 _ hk1
   have hlb:=lt_of_cell x0
   have HBN:=Hy (fun e=>below_next (l:=l) HASC.out (x:=bs key) hk1 e)
   have HAN:=Hy (fun e=>above_next (l:=l) HASC.out (x:=bs key) hk1 e)
   have CK:=Hy (fun W=>cmpKey_any l[(lo+hi) / 2] key W)
   have CL:=Hy (cmpB_lt (bs l[(lo+hi) / 2].k) (bs key))
   clear X hX
   generalize l[(lo+hi) / 2]=s at *
   obtain⟨sk,sv⟩:=s
   dsimp only at x0 x1
   by_cases hyx:Lib.compareBytes (bs sk) (bs key) < 0
   ·have hbn:=HBN.out (CL.out.1 hyx)
    have HB2:=Hy hbn
    clear hbn HBN HAN
    have ck:=fun W=>(CK.out W)
    dsimp only at ck
    generalize Lib.compareBytes (bs sk) (bs key)=z at *
    go_wp2_with fail
    refine (ck _).mono ?_
    rintro e w1 ⟨rfl,hx1⟩
    go_wp2
    go_roundg (hi - ((lo+hi) / 2+1))
    case measure=>omega
    case rel=>exact⟨(lo+hi) / 2+1,hi,by rw[show ((lo:Int)+(hi:Int)) / 2+1=(((lo+hi) / 2+1:Nat):Int) by omega],rfl,by omega,hin,Nat.le_refl _,hxr.trans hx1,Hy ⟨HB2.out,I.out.2⟩⟩
   ·have hbn:=HAN.out (fun e=>hyx (CL.out.2 e))
    have HB2:=Hy hbn
    clear hbn HBN HAN
    have ck:=fun W=>(CK.out W)
    dsimp only at ck
    generalize Lib.compareBytes (bs sk) (bs key)=z at *
    go_wp2_with fail
    refine (ck _).mono ?_
    rintro e w1 ⟨rfl,hx1⟩
    go_wp2
    go_roundg ((lo+hi) / 2 - lo)
    case measure=>omega
    case rel=>exact⟨lo,(lo+hi) / 2,rfl,by rw[show ((lo:Int)+(hi:Int)) / 2=(((lo+hi) / 2:Nat):Int) by omega],by omega,by omega,Nat.le_refl _,hxr.trans hx1,Hy ⟨I.out.1,HB2.out⟩⟩
  ·obtain rfl:lo=hi:=by omega
   by_cases hn:lo < n
   ·have hk1:lo < l.length:=by rw[HN.out];exact hn
    obtain⟨b,o,rfl,hX⟩:=HR.out (fun e=>by rw[e] at hk1;exact absurd hk1 (Nat.not_lt_zero _))
    have X:=hX.ext hxr
    have x0:=X.c0 _ hk1
    have x1:=X.c1 _ hk1
    have hlb:=lt_of_cell x0
    have CK:=Hy (fun W=>cmpKey_any l[lo] key W)
    have HFIN:=Hy (show (Lib.compareBytes (bs l[lo].k) (bs key)=0->∃ h:lo < l.length,bs l[lo].k=bs key)∧(¬ Lib.compareBytes (bs l[lo].k) (bs key)=0->tbl l (bs key)=none) from
     ⟨fun e=>⟨hk1,(cmpB_zero _ _).1 e⟩,fun e=>search_miss HASC.out I.out.1 I.out.2 fun h e2=>e ((cmpB_zero _ _).2 e2)⟩)
    clear X hX
    generalize l[lo]=s at *
    obtain⟨sk,sv⟩:=s
    dsimp only at x0 x1
    have ck:=fun W=>(CK.out W)
    dsimp only at ck HFIN
    generalize Lib.compareBytes (bs sk) (bs key)=z at *
    by_cases hz:z=0
    ·go_wp2_with fail
     refine (ck _).mono ?_
     rintro e w1 ⟨rfl,hx1⟩
     go_wp2
     go_ret2
     exact⟨lo,true,by simp,fun _=>⟨hk1,(HFIN.out.1 hz).2⟩,(fun h=>by cases h),hxr.trans hx1⟩
    ·go_wp2_with fail
     refine (ck _).mono ?_
     rintro e w1 ⟨rfl,hx1⟩
     go_wp2
     go_ret2
     exact⟨lo,false,by simp[hz],(fun h=>by cases h),fun _=>HFIN.out.2 hz,hxr.trans hx1⟩
   ·have HFIN:=Hy (show tbl l (bs key)=none from search_miss HASC.out I.out.1 I.out.2 fun h=>absurd h (by rw[HN.out];exact hn))
    go_wp2
    go_ret2
    exact⟨lo,false,by simp,(fun h=>by cases h),fun _=>HFIN.out,hxr⟩
set_option maxHeartbeats 4000000 in
theorem valueOf_any (A:Option Addr) (n c:Nat) (l:List Se) (key:ByteArray) (w:World) (hn:l.length=n) (hr:RdE w A l) (hl:n<=2097152) (ha:Asc l) :
 Calls Tryz.prog 261 #[.slice A n c,.string key] w fun e w'=>e=.returned (.tuple #[S ((tbl l (bs key)).getD []),.bool (tbl l (bs key)).isSome])∧Ext w w':=by
 have CB:=Hy (fun W (h:Ext w W)=>BinS_any A n c l key W hn (hr.ext h) hl ha)
 have HN:=Hy hn
 have HR:=Hy hr
 have HASC:=Hy ha
 clear hn hr ha
 go_enter Tryz.func261,Tryz.ntmps261
 go_wp2_with fail
 refine (CB.out _ Ext.au).mono ?_
 rintro e w1 ⟨i,r,rfl,h1,h2,hx1⟩
 have hxa:Ext w w1:=Ext.trans Ext.au hx1
 cases r
 ·have HT:=Hy (h2 rfl)
  clear h1 h2
  go_wp2
  go_ret2
  rw[HT.out]
  exact⟨rfl,hxa⟩
 ·obtain⟨hk1,hk2⟩:=h1 rfl
  have HT:=Hy (search_hit HASC.out hk1 hk2)
  obtain⟨b,o,rfl,hX⟩:=HR.out (fun e=>by rw[e] at hk1;exact absurd hk1 (Nat.not_lt_zero _))
  have X:=hX.ext hxa
  have x0:=X.c0 _ hk1
  have x1:=X.c1 _ hk1
  have hlb:=lt_of_cell x0
  have hin:i < n:=by rw[<-HN.out];exact hk1
  clear X hX h1 h2 hk2
  generalize l[i]=s at *
  obtain⟨sk,sv⟩:=s
  dsimp only at x0 x1
  go_wp2
  go_ret2
  rw[HT.out]
  exact⟨by simp[S_bs],hxa⟩
end
end Go.Proofs.YtmpccllnpcbgcaaGreatDoor
