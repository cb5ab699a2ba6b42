/- Contracts of ver.CheckRange. -/
import Derived.Test.YtmnafaaijglnfaaGreatDoorMg20
namespace Go.Proofs.YtmnafaaijglnfaaGreatDoor
open Go.RowKit
def SmallS (l:List Sp):Prop:=∀ s∈l,s.f.a.size<=2097152∧s.t.a.size<=2097152
theorem errAt_0 {l:List Sp} (h:0 < l.length):errAt l 0=spErr l[0]:=by
 unfold errAt
 have e:l.getD 0 zeroS=l[0]:=by simp[List.getD,List.getElem?_eq_getElem h]
 rw[e]
 by_cases h1:spErr l[0]=0
 ·rw[if_neg (by simpa using h1),if_pos rfl,h1]
 ·rw[if_pos h1]
theorem errAt_bad {l:List Sp} {k:Nat} (h:k < l.length) (h1:¬ spErr l[k]=0):errAt l k=spErr l[k]:=by
 unfold errAt
 have e:l.getD k zeroS=l[k]:=by simp[List.getD,List.getElem?_eq_getElem h]
 rw[e,if_pos h1]
theorem errAt_gap {l:List Sp} {k:Nat} (h:k < l.length) (h0:0 < k) (h1:spErr l[k]=0):errAt l k=gapErr l[k - 1] l[k]:=by
 unfold errAt
 have e:l.getD k zeroS=l[k]:=by simp[List.getD,List.getElem?_eq_getElem h]
 have e2:l.getD (k - 1) zeroS=l[k - 1]:=by simp[List.getD,List.getElem?_eq_getElem (by omega:k - 1 < l.length)]
 rw[e,e2,if_neg (by simpa using h1),if_neg (by omega)]
theorem rng_large {l:List Sp} (h:10 < l.length):rngErr l=4:=by rw[rngErr,if_pos h]
theorem rng_at {l:List Sp} {k:Nat} (hl:l.length<=10) (h:k < l.length) (h0:∀ x∈(errsOf l).take k,x=0) (h1:¬ errAt l k=0):rngErr l=errAt l k:=by
 rw[rngErr,if_neg (by omega)]
 have hk:k < (errsOf l).length:=by rw[errs_length];exact h
 rw[firstI_at hk h0 (by rw[errs_get];exact h1),errs_get]
theorem rng_next {l:List Sp} {k:Nat} (h:k < l.length) (h0:∀ x∈(errsOf l).take k,x=0) (h1:errAt l k=0):∀ x∈(errsOf l).take (k+1),x=0:=by
 have hk:k < (errsOf l).length:=by rw[errs_length];exact h
 exact take_zero_succ hk h0 (by rw[errs_get];exact h1)
theorem rng_all {l:List Sp} (hl:l.length<=10) (h0:∀ x∈(errsOf l).take l.length,x=0):rngErr l=0:=by
 rw[rngErr,if_neg (by omega)]
 rw[List.take_of_length_le (by rw[errs_length];exact Nat.le_refl _)] at h0
 exact firstI_zero h0
theorem gap_ne {p s:Sp} (h:p.ht=false∨s.hf=false∨0<=p.t.ord s.f):gapErr p s=7:=by
 unfold gapErr
 rw[if_pos]
 rcases h with h|h|h<;>simp[h]
theorem gap_ok {p s:Sp} (h1:p.ht=true) (h2:s.hf=true) (h:¬ 0<=p.t.ord s.f):gapErr p s=0:=by
 unfold gapErr
 rw[if_neg]
 simpa [h1,h2] using h
set_option maxHeartbeats 8000000 in
theorem CheckRange_any (A:Option Addr) (n c:Nat) (l:List Sp) (w:World) (hg:Good w) (hn:l.length=n) (hr:RdS w A l) (hs:SmallS l) (hl:n<=2097152) :
 Calls Tryz.prog 89 #[.agg #[.slice A n c]] w fun e w'=>e=.returned (.int .i64 (rngErr l))∧Ext w w':=by
 have HN:=Hy hn
 clear hn
 by_cases h10:10 < n
 ·have hR:rngErr l=4:=rng_large (by rw[HN.out];exact h10)
  have HR:=Hy hR
  clear hR
  go_enter Tryz.func89,Tryz.ntmps89
  go_wp2
  go_ret
  exact⟨ret_int HR.out.symm,Ext.au⟩
 rcases Nat.eq_zero_or_pos n with h0|h0
 ·subst h0
  have he:l=[]:=List.eq_nil_of_length_eq_zero HN.out
  have hR:rngErr l=0:=by rw[he];rfl
  have HR:=Hy hR
  clear he hR
  go_enter Tryz.func89,Tryz.ntmps89
  go_wp2
  go_loop [14] (fun i=>i=.int .i64 0) (fun i=>0)
  case atStart=>rfl
  case round =>
   subst hrel
   go_wp2
   go_ret
   exact⟨ret_int HR.out.symm,Ext.au⟩
 obtain⟨b,o,rfl,hX⟩:=hr (fun e=>by have:=HN.out;rw[e] at this;simp at this;omega)
 clear hr
 go_enter Tryz.func89,Tryz.ntmps89
 go_wp2
 go_loopw [14] (fun i wr=>∃ k:Nat,k<=n∧i=.int .i64 k∧(∀ x∈(errsOf l).take k,x=0)∧Ext (w.alloc (.cells #[.slice (some ⟨b,o,none⟩) n c] 42)) wr) (fun i _=>n - (intOf i).toNat)
 case atStart=>exact⟨0,Nat.zero_le _,rfl,by simp,Ext.refl _⟩
 case round =>
  obtain⟨k,hk,rfl,hall,hxr⟩:=hrel
  have HALL:=Hy hall
  clear hall
  have hxw:Ext w wr:=Ext.trans Ext.au hxr
  have hB:=(Blk.new w 42 #[.slice (some ⟨b,o,none⟩) n c]).ext hxr
  by_cases hlt:k < n
  ·have hk1:k < l.length:=by rw[HN.out];exact hlt
   have X:=hX.ext hxw
   have x0:=X.c0 k hk1;have x1:=X.c1 k hk1;have x2:=X.c2 k hk1;have x3:=X.c3 k hk1;have x4:=X.c4 k hk1
   have x5:=X.c5 k hk1;have x6:=X.c6 k hk1;have x7:=X.c7 k hk1;have x8:=X.c8 k hk1;have x9:=X.c9 k hk1
   have hz1:=hs l[k] (List.getElem_mem hk1)
   have hbad:¬ spErr l[k]=0->rngErr l=spErr l[k]:=fun h=>by
    have e:=errAt_bad hk1 h
    rw[rng_at (by have:=HN.out;omega) hk1 HALL.out (by rw[e];exact h),e]
   have HBAD:=Hy hbad
   have hgood:errAt l k=0->∀ x∈(errsOf l).take (k+1),x=0:=rng_next hk1 HALL.out
   have HGOOD:=Hy hgood
   have hgapb:errAt l k=7->rngErr l=7:=fun h=>by rw[rng_at (by have:=HN.out;omega) hk1 HALL.out (by rw[h];decide),h]
   have HGAPB:=Hy hgapb
   clear hbad hgood hgapb
   by_cases hk0:k=0
   ·subst hk0
    have HE:=Hy (errAt_0 hk1)
    generalize l[0]=s at *
    obtain⟨hf,ht,⟨f1,f2,f3,fa⟩,⟨t1,t2,t3,ta⟩⟩:=s
    dsimp only at x0 x1 x2 x3 x4 x5 x6 x7 x8 x9 hz1
    rw[Nat.zero_mul,Nat.add_zero] at x0 x1 x2 x3 x4 x5 x6 x7 x8 x9
    obtain⟨hz1,hz2⟩:=hz1
    go_wp2_with fail
    refine (spanFault_any ⟨hf,ht,⟨f1,f2,f3,fa⟩,⟨t1,t2,t3,ta⟩⟩ _ (hg.ext (hxw.trans Ext.au)) hz1 hz2).mono ?_
    generalize spErr ⟨hf,ht,⟨f1,f2,f3,fa⟩,⟨t1,t2,t3,ta⟩⟩=r at *
    rintro e w1 ⟨rfl,hx1⟩
    by_cases hr:r=0
    ·have HR:=Hy hr
     rw[hr]
     clear hr
     go_wp2
     go_roundw
     case rel=>exact⟨1,by omega,rfl,HGOOD.out (HE.out.trans HR.out),(hxr.trans Ext.au).trans hx1⟩
     case measure=>simp[intOf];omega
    ·go_wp2
     go_ret
     exact⟨ret_int (HBAD.out hr).symm,(hxw.trans Ext.au).trans hx1⟩
   ·obtain⟨j,rfl⟩:∃ j,k=j+1:=⟨k - 1,by omega⟩
    have hj:j < l.length:=by omega
    have HE:=Hy (errAt_gap hk1 (by omega))
    simp only[Nat.add_sub_cancel] at HE
    have y0:=X.c0 j hj;have y1:=X.c1 j hj;have y2:=X.c2 j hj;have y3:=X.c3 j hj;have y4:=X.c4 j hj
    have y5:=X.c5 j hj;have y6:=X.c6 j hj;have y7:=X.c7 j hj;have y8:=X.c8 j hj;have y9:=X.c9 j hj
    have hz3:=hs l[j] (List.getElem_mem hj)
    clear X hk0
    generalize l[j+1]=s at *
    generalize l[j]=p at *
    have q3:=fun h=>gap_ne (p:=p) (s:=s) (.inl h)
    have q4:=fun h=>gap_ne (p:=p) (s:=s) (.inr (.inl h))
    have q5:=fun h=>gap_ne (p:=p) (s:=s) (.inr (.inr h))
    have q6:=gap_ok (p:=p) (s:=s)
    obtain⟨hf,ht,⟨f1,f2,f3,fa⟩,⟨t1,t2,t3,ta⟩⟩:=s
    obtain⟨pf,pt,⟨g1,g2,g3,ga⟩,⟨u1,u2,u3,ua⟩⟩:=p
    dsimp only at x0 x1 x2 x3 x4 x5 x6 x7 x8 x9 hz1 y0 y1 y2 y3 y4 y5 y6 y7 y8 y9 hz3
    dsimp only[V4.ord] at q3 q4 q5 q6
    generalize gapErr ⟨pf,pt,⟨g1,g2,g3,ga⟩,⟨u1,u2,u3,ua⟩⟩ ⟨hf,ht,⟨f1,f2,f3,fa⟩,⟨t1,t2,t3,ta⟩⟩=G at *
    have Q3:=Hy q3
    have Q4:=Hy q4
    have Q5:=Hy q5
    have Q6:=Hy q6
    clear q3 q4 q5 q6
    obtain⟨hz1,hz2⟩:=hz1
    obtain⟨hz3,hz4⟩:=hz3
    go_wp2_with fail
    refine (spanFault_any ⟨hf,ht,⟨f1,f2,f3,fa⟩,⟨t1,t2,t3,ta⟩⟩ _ (hg.ext (hxw.trans Ext.au)) hz1 hz2).mono ?_
    generalize spErr ⟨hf,ht,⟨f1,f2,f3,fa⟩,⟨t1,t2,t3,ta⟩⟩=r at *
    rintro e w1 ⟨rfl,hx1⟩
    by_cases hr:r=0
    rotate_left
    ·go_wp2
     go_ret
     exact⟨ret_int (HBAD.out hr).symm,(hxw.trans Ext.au).trans hx1⟩
    have HG:=Hy (HE.out hr)
    rw[hr]
    clear hr
    have bS:=(Blk.new wr 130 #[.bool hf,.bool ht,.int .i64 f1,.int .i64 f2,.int .i64 f3,.string fa,.int .i64 t1,.int .i64 t2,.int .i64 t3,.string ta]).ext hx1
    have sc:=bS.cell
    have sl:=bS.lt
    have bB:=(hB.alloc _).ext hx1
    have bc:=bB.cell
    have hxa:Ext wr w1:=Ext.trans Ext.au hx1
    have hlw:=hB.lt
    have y0:=hxa.cell y0;have y1:=hxa.cell y1;have y2:=hxa.cell y2;have y3:=hxa.cell y3;have y4:=hxa.cell y4
    have y5:=hxa.cell y5;have y6:=hxa.cell y6;have y7:=hxa.cell y7;have y8:=hxa.cell y8;have y9:=hxa.cell y9
    clear x0 x1 x2 x3 x4 x5 x6 x7 x8 x9
    cases pt
    ·go_wp2
     go_ret
     exact⟨ret_int (HGAPB.out (HG.out.trans (Q3.out (by trivial)))).symm,hxw.trans Ext.au⟩
    cases hf
    ·go_wp2
     go_ret
     exact⟨ret_int (HGAPB.out (HG.out.trans (Q4.out (by trivial)))).symm,hxw.trans Ext.au⟩
    go_wp2_with fail
    refine (Order_any f1 f2 f3 u1 u2 u3 fa ua _ (hg.ext (hxw.trans Ext.au)) hz1 hz4).mono ?_
    rintro e w2 ⟨rfl,hx2⟩
    have hon:=order_neg f1 f2 f3 (bs fa) u1 u2 u3 (bs ua)
    have HON:=Hy hon
    clear hon
    have hxb:Ext w w2:=Ext.trans (hxw.trans Ext.au) hx2
    have hxc:Ext wr w2:=Ext.trans Ext.au hx2
    by_cases ho:orderL f1 f2 f3 (bs fa) u1 u2 u3 (bs ua)<=0
    ·have HO:=Hy ho
     go_wp2
     go_ret
     exact⟨ret_int (HGAPB.out (HG.out.trans (Q5.out (by rw[HON.out];have:=HO.out;omega)))).symm,hxb⟩
    ·have HO:=Hy ho
     go_wp2
     go_roundw
     case rel=>exact⟨j+1+1,by omega,by go_num,HGOOD.out (HG.out.trans (Q6.out (by trivial) (by trivial) (by rw[HON.out];have:=HO.out;omega))),hxr.trans hxc⟩
     case measure=>simp[intOf];omega
  ·obtain rfl:k=n:=by omega
   go_wp2
   go_ret
   exact⟨ret_int (rng_all (by have:=HN.out;omega) (by rw[HN.out];exact HALL.out)).symm,hxw⟩
end Go.Proofs.YtmnafaaijglnfaaGreatDoor
