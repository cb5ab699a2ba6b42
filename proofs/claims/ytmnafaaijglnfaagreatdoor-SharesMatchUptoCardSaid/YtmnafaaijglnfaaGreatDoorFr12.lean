/- Contracts of ver.CheckRange. Contracts of ver.isRow, wrong, spanText, PrintRange; ver.Parse, Next, text in the words of V4. Plain law: the program's reading of a condition, as it runs; its places only go on. Plain law: the program's reading of a condition goes on, and its loop ends. A condition in memory. Plain law: the reference's words of a condition's text, its reading as it runs, and the program's states that fit it. Plain law: the program's and the reference's reading of a condition answer alike. Plain law: the program's reading of a condition and the reference's go alike. Plain law: the program's and the reference's reading of a condition answer alike, the whole. -/
import Derived.Test.YtmnafaaijglnfaaGreatDoorFr11
import Derived.Test.YtmnafaaijglnfaaGreatDoorFr08
import Derived.Test.YtmnafaaijglnfaaGreatDoorFr10
namespace Go.Proofs.YtmnafaaijglnfaaGreatDoor
section
open Go.RowKit
def SmallS (l:List Sp):Prop:=∀ s∈l,s.f.a.size<=2097152∧s.t.a.size<=2097152
theorem errAt_0 {l:List Sp} (h:0 < l.length):errAt l 0=spErr l[0]:=by
 unfold errAt
 have e:l.getD 0 zeroS=l[0]:=by simp[List.getD,List.getElem?_eq_getElem h]
 rw[e]
 by_cases h1:spErr l[0]=0
 ·rw[if_neg (by simpa using h1),if_pos rfl,h1]
 ·rw[if_pos h1]
theorem errAt_bad {l:List Sp} {k:Nat} (h:k < l.length) (h1:¬ spErr l[k]=0):errAt l k=spErr l[k]:=by
 unfold errAt
 have e:l.getD k zeroS=l[k]:=by simp[List.getD,List.getElem?_eq_getElem h]
 rw[e,if_pos h1]
theorem errAt_gap {l:List Sp} {k:Nat} (h:k < l.length) (h0:0 < k) (h1:spErr l[k]=0):errAt l k=gapErr l[k - 1] l[k]:=by
 unfold errAt
 have e:l.getD k zeroS=l[k]:=by simp[List.getD,List.getElem?_eq_getElem h]
 have e2:l.getD (k - 1) zeroS=l[k - 1]:=by simp[List.getD,List.getElem?_eq_getElem (by omega:k - 1 < l.length)]
 rw[e,e2,if_neg (by simpa using h1),if_neg (by omega)]
theorem rng_large {l:List Sp} (h:10 < l.length):rngErr l=4:=by rw[rngErr,if_pos h]
theorem rng_at {l:List Sp} {k:Nat} (hl:l.length<=10) (h:k < l.length) (h0:∀ x∈(errsOf l).take k,x=0) (h1:¬ errAt l k=0):rngErr l=errAt l k:=by
 rw[rngErr,if_neg (by omega)]
 have hk:k < (errsOf l).length:=by rw[errs_length];exact h
 rw[firstI_at hk h0 (by rw[errs_get];exact h1),errs_get]
theorem rng_next {l:List Sp} {k:Nat} (h:k < l.length) (h0:∀ x∈(errsOf l).take k,x=0) (h1:errAt l k=0):∀ x∈(errsOf l).take (k+1),x=0:=by
 have hk:k < (errsOf l).length:=by rw[errs_length];exact h
 exact take_zero_succ hk h0 (by rw[errs_get];exact h1)
theorem rng_all {l:List Sp} (hl:l.length<=10) (h0:∀ x∈(errsOf l).take l.length,x=0):rngErr l=0:=by
 rw[rngErr,if_neg (by omega)]
 rw[List.take_of_length_le (by rw[errs_length];exact Nat.le_refl _)] at h0
 exact firstI_zero h0
theorem gap_ne {p s:Sp} (h:p.ht=false∨s.hf=false∨0<=p.t.ord s.f):gapErr p s=7:=by
 unfold gapErr
 rw[if_pos]
 rcases h with h|h|h<;>simp[h]
theorem gap_ok {p s:Sp} (h1:p.ht=true) (h2:s.hf=true) (h:¬ 0<=p.t.ord s.f):gapErr p s=0:=by
 unfold gapErr
 rw[if_neg]
 simpa [h1,h2] using h
set_option maxHeartbeats 8000000 in
theorem CheckRange_any (A:Option Addr) (n c:Nat) (l:List Sp) (w:World) (hg:Good w) (hn:l.length=n) (hr:RdS w A l) (hs:SmallS l) (hl:n<=2097152) :
 Calls Tryz.prog 89 #[.agg #[.slice A n c]] w fun e w'=>e=.returned (.int .i64 (rngErr l))∧Ext w w':=by
 have HN:=Hy hn
 clear hn
 by_cases h10:10 < n
 ·have hR:rngErr l=4:=rng_large (by rw[HN.out];exact h10)
  have HR:=Hy hR
  clear hR
  go_enter Tryz.func89,Tryz.ntmps89
  go_wp2
  go_ret
  exact⟨ret_int HR.out.symm,Ext.au⟩
 rcases Nat.eq_zero_or_pos n with h0|h0
 ·subst h0
  have he:l=[]:=List.eq_nil_of_length_eq_zero HN.out
  have hR:rngErr l=0:=by rw[he];rfl
  have HR:=Hy hR
  clear he hR
  go_enter Tryz.func89,Tryz.ntmps89
  go_wp2
  go_loop [14] (fun i=>i=.int .i64 0) (fun i=>0)
  case atStart=>rfl
  case round =>
   subst hrel
   go_wp2
   go_ret
   exact⟨ret_int HR.out.symm,Ext.au⟩
 obtain⟨b,o,rfl,hX⟩:=hr (fun e=>by have:=HN.out;rw[e] at this;simp at this;omega)
 clear hr
 go_enter Tryz.func89,Tryz.ntmps89
 go_wp2
 go_loopw [14] (fun i wr=>∃ k:Nat,k<=n∧i=.int .i64 k∧(∀ x∈(errsOf l).take k,x=0)∧Ext (w.alloc (.cells #[.slice (some ⟨b,o,none⟩) n c] 42)) wr) (fun i _=>n - (intOf i).toNat)
 case atStart=>exact⟨0,Nat.zero_le _,rfl,by simp,Ext.refl _⟩
 case round =>
  obtain⟨k,hk,rfl,hall,hxr⟩:=hrel
  have HALL:=Hy hall
  clear hall
  have hxw:Ext w wr:=Ext.trans Ext.au hxr
  have hB:=(Blk.new w 42 #[.slice (some ⟨b,o,none⟩) n c]).ext hxr
  by_cases hlt:k < n
  ·have hk1:k < l.length:=by rw[HN.out];exact hlt
   have X:=hX.ext hxw
   have x0:=X.c0 k hk1;have x1:=X.c1 k hk1;have x2:=X.c2 k hk1;have x3:=X.c3 k hk1;have x4:=X.c4 k hk1
   have x5:=X.c5 k hk1;have x6:=X.c6 k hk1;have x7:=X.c7 k hk1;have x8:=X.c8 k hk1;have x9:=X.c9 k hk1
   have hz1:=hs l[k] (List.getElem_mem hk1)
   have hbad:¬ spErr l[k]=0->rngErr l=spErr l[k]:=fun h=>by
    have e:=errAt_bad hk1 h
    rw[rng_at (by have:=HN.out;omega) hk1 HALL.out (by rw[e];exact h),e]
   have HBAD:=Hy hbad
   have hgood:errAt l k=0->∀ x∈(errsOf l).take (k+1),x=0:=rng_next hk1 HALL.out
   have HGOOD:=Hy hgood
   have hgapb:errAt l k=7->rngErr l=7:=fun h=>by rw[rng_at (by have:=HN.out;omega) hk1 HALL.out (by rw[h];decide),h]
   have HGAPB:=Hy hgapb
   clear hbad hgood hgapb
   by_cases hk0:k=0
   ·subst hk0
    have HE:=Hy (errAt_0 hk1)
    generalize l[0]=s at *
    obtain⟨hf,ht,⟨f1,f2,f3,fa⟩,⟨t1,t2,t3,ta⟩⟩:=s
    dsimp only at x0 x1 x2 x3 x4 x5 x6 x7 x8 x9 hz1
    rw[Nat.zero_mul,Nat.add_zero] at x0 x1 x2 x3 x4 x5 x6 x7 x8 x9
    obtain⟨hz1,hz2⟩:=hz1
    go_wp2_with fail
    refine (spanFault_any ⟨hf,ht,⟨f1,f2,f3,fa⟩,⟨t1,t2,t3,ta⟩⟩ _ (hg.ext (hxw.trans Ext.au)) hz1 hz2).mono ?_
    generalize spErr ⟨hf,ht,⟨f1,f2,f3,fa⟩,⟨t1,t2,t3,ta⟩⟩=r at *
    rintro e w1 ⟨rfl,hx1⟩
    by_cases hr:r=0
    ·have HR:=Hy hr
     rw[hr]
     clear hr
     go_wp2
     go_roundw
     case rel=>exact⟨1,by omega,rfl,HGOOD.out (HE.out.trans HR.out),(hxr.trans Ext.au).trans hx1⟩
     case measure=>simp[intOf];omega
    ·go_wp2
     go_ret
     exact⟨ret_int (HBAD.out hr).symm,(hxw.trans Ext.au).trans hx1⟩
   ·obtain⟨j,rfl⟩:∃ j,k=j+1:=⟨k - 1,by omega⟩
    have hj:j < l.length:=by omega
    have HE:=Hy (errAt_gap hk1 (by omega))
    simp only[Nat.add_sub_cancel] at HE
    have y0:=X.c0 j hj;have y1:=X.c1 j hj;have y2:=X.c2 j hj;have y3:=X.c3 j hj;have y4:=X.c4 j hj
    have y5:=X.c5 j hj;have y6:=X.c6 j hj;have y7:=X.c7 j hj;have y8:=X.c8 j hj;have y9:=X.c9 j hj
    have hz3:=hs l[j] (List.getElem_mem hj)
    clear X hk0
    generalize l[j+1]=s at *
    generalize l[j]=p at *
    have q3:=fun h=>gap_ne (p:=p) (s:=s) (.inl h)
    have q4:=fun h=>gap_ne (p:=p) (s:=s) (.inr (.inl h))
    have q5:=fun h=>gap_ne (p:=p) (s:=s) (.inr (.inr h))
    have q6:=gap_ok (p:=p) (s:=s)
    obtain⟨hf,ht,⟨f1,f2,f3,fa⟩,⟨t1,t2,t3,ta⟩⟩:=s
    obtain⟨pf,pt,⟨g1,g2,g3,ga⟩,⟨u1,u2,u3,ua⟩⟩:=p
    dsimp only at x0 x1 x2 x3 x4 x5 x6 x7 x8 x9 hz1 y0 y1 y2 y3 y4 y5 y6 y7 y8 y9 hz3
    dsimp only[V4.ord] at q3 q4 q5 q6
    generalize gapErr ⟨pf,pt,⟨g1,g2,g3,ga⟩,⟨u1,u2,u3,ua⟩⟩ ⟨hf,ht,⟨f1,f2,f3,fa⟩,⟨t1,t2,t3,ta⟩⟩=G at *
    have Q3:=Hy q3
    have Q4:=Hy q4
    have Q5:=Hy q5
    have Q6:=Hy q6
    clear q3 q4 q5 q6
    obtain⟨hz1,hz2⟩:=hz1
    obtain⟨hz3,hz4⟩:=hz3
    go_wp2_with fail
    refine (spanFault_any ⟨hf,ht,⟨f1,f2,f3,fa⟩,⟨t1,t2,t3,ta⟩⟩ _ (hg.ext (hxw.trans Ext.au)) hz1 hz2).mono ?_
    generalize spErr ⟨hf,ht,⟨f1,f2,f3,fa⟩,⟨t1,t2,t3,ta⟩⟩=r at *
    rintro e w1 ⟨rfl,hx1⟩
    by_cases hr:r=0
    rotate_left
    ·go_wp2
     go_ret
     exact⟨ret_int (HBAD.out hr).symm,(hxw.trans Ext.au).trans hx1⟩
    have HG:=Hy (HE.out hr)
    rw[hr]
    clear hr
    have bS:=(Blk.new wr 130 #[.bool hf,.bool ht,.int .i64 f1,.int .i64 f2,.int .i64 f3,.string fa,.int .i64 t1,.int .i64 t2,.int .i64 t3,.string ta]).ext hx1
    have sc:=bS.cell
    have sl:=bS.lt
    have bB:=(hB.alloc _).ext hx1
    have bc:=bB.cell
    have hxa:Ext wr w1:=Ext.trans Ext.au hx1
    have hlw:=hB.lt
    have y0:=hxa.cell y0;have y1:=hxa.cell y1;have y2:=hxa.cell y2;have y3:=hxa.cell y3;have y4:=hxa.cell y4
    have y5:=hxa.cell y5;have y6:=hxa.cell y6;have y7:=hxa.cell y7;have y8:=hxa.cell y8;have y9:=hxa.cell y9
    clear x0 x1 x2 x3 x4 x5 x6 x7 x8 x9
    cases pt
    ·go_wp2
     go_ret
     exact⟨ret_int (HGAPB.out (HG.out.trans (Q3.out (by trivial)))).symm,hxw.trans Ext.au⟩
    cases hf
    ·go_wp2
     go_ret
     exact⟨ret_int (HGAPB.out (HG.out.trans (Q4.out (by trivial)))).symm,hxw.trans Ext.au⟩
    go_wp2_with fail
    refine (Order_any f1 f2 f3 u1 u2 u3 fa ua _ (hg.ext (hxw.trans Ext.au)) hz1 hz4).mono ?_
    rintro e w2 ⟨rfl,hx2⟩
    have hon:=order_neg f1 f2 f3 (bs fa) u1 u2 u3 (bs ua)
    have HON:=Hy hon
    clear hon
    have hxb:Ext w w2:=Ext.trans (hxw.trans Ext.au) hx2
    have hxc:Ext wr w2:=Ext.trans Ext.au hx2
    by_cases ho:orderL f1 f2 f3 (bs fa) u1 u2 u3 (bs ua)<=0
    ·have HO:=Hy ho
     go_wp2
     go_ret
     exact⟨ret_int (HGAPB.out (HG.out.trans (Q5.out (by rw[HON.out];have:=HO.out;omega)))).symm,hxb⟩
    ·have HO:=Hy ho
     go_wp2
     go_roundw
     case rel=>exact⟨j+1+1,by omega,by go_num,HGOOD.out (HG.out.trans (Q6.out (by trivial) (by trivial) (by rw[HON.out];have:=HO.out;omega))),hxr.trans hxc⟩
     case measure=>simp[intOf];omega
  ·obtain rfl:k=n:=by omega
   go_wp2
   go_ret
   exact⟨ret_int (rng_all (by have:=HN.out;omega) (by rw[HN.out];exact HALL.out)).symm,hxw⟩
end
section
open Go.RowKit
theorem isRow_any (s:ByteArray) (w:World) (hg:Good w) (hs:s.size<=2097152) :
 Calls Tryz.prog 161 #[.string s] w fun e w'=>e=.returned (.bool (rowL (bs s)))∧w=w':=by
 go_enter Tryz.func161,Tryz.ntmps161
 go_wp2_with (go_at_call 232;refine (contains_any 32 s _ hg hs).mono ?_;rintro e w' ⟨rfl,rfl⟩)
 go_ret
 exact⟨ret_bool (by simp[rowL]),rfl⟩
theorem parseV_size' {l:Str} {r:(Int × Int × Int × Str) × Int} (hr:parseV l=r):r.1.2.2.2.length<=l.length:=by
 have hc:=(cutC_size 45 l).2
 unfold parseV at hr
 split at hr
 ·split at hr
  ·subst hr;exact Nat.zero_le _
  ·split at hr
   ·subst hr;exact Nat.zero_le _
   ·split at hr
    ·subst hr;exact hc
    ·subst hr;exact Nat.zero_le _
 ·subst hr;exact Nat.zero_le _
theorem parse_val {s b:ByteArray} (hb:bs b=(parseV (bs s)).1.2.2.2):(⟨(parseV (bs s)).1.2.2.2.toArray⟩:ByteArray)=b:=by rw[<-hb,mk_bs]
theorem Parse_x (s:ByteArray) (w:World) (hg:GoodN w) (hs:s.size<=2097152) :
 Calls Tryz.prog 26 #[.string s] w fun e w'=>∃ v r,pV (bs s)=(v,r)∧e=.returned (.tuple #[verV v,.int .i64 r])∧v.a.size<=s.size∧Ext w w' :=
 (Parse_any s w hg hs).mono fun _ _ ⟨b,hp,hb,hz,hx⟩=>by
   rw[bs_length] at hz
   refine⟨⟨(parseV (bs s)).1.1,(parseV (bs s)).1.2.1,(parseV (bs s)).1.2.2.1,b⟩,(parseV (bs s)).2,?_,hp,hz,hx⟩
   unfold pV
   rw[parse_val hb]
theorem Read_x (s:ByteArray) (w:World) (hg:GoodN w) (hs:s.size<=2097152) :
 Calls Tryz.prog 27 #[.string s] w fun e w'=>∃ v r,pV (bs s)=(v,r)∧e=.returned (.tuple #[verV v,.int .i64 r])∧v.a.size<=s.size∧Ext w w' :=
 (ReadVersion_any s w hg hs).mono fun _ _ ⟨b,hp,hb,hz,hx⟩=>by
   rw[bs_length] at hz
   refine⟨⟨(parseV (bs s)).1.1,(parseV (bs s)).1.2.1,(parseV (bs s)).1.2.2.1,b⟩,(parseV (bs s)).2,?_,hp,hz,hx⟩
   unfold pV
   rw[parse_val hb]
theorem Next_x (v:V4) (part:Int) (w:World) (hg:Good w) (hs:v.a.size<=2097152) :
 Calls Tryz.prog 14 #[verV v,.int .i64 part] w fun e w'=>∃ x y z r,nV v part=(⟨x,y,z,⟨#[]⟩⟩,r)∧e=.returned (.tuple #[verV ⟨x,y,z,⟨#[]⟩⟩,.int .i64 r])∧Ext w w' :=
 (Next_any v.a1 v.a2 v.a3 part v.a w hg hs).mono fun _ _ ⟨h,hx⟩=>⟨_,_,_,_,rfl,h,hx⟩
theorem NextOf_x (v:V4) (part:Int) (w:World) (hg:Good w) (hs:v.a.size<=2097152) :
 Calls Tryz.prog 15 #[verV v,.int .i64 part] w fun e w'=>∃ x y z r,nV v part=(⟨x,y,z,⟨#[]⟩⟩,r)∧e=.returned (.tuple #[verV ⟨x,y,z,⟨#[]⟩⟩,.int .i64 r])∧Ext w w' :=
 (NextOf_any v.a1 v.a2 v.a3 part v.a w hg hs).mono fun _ _ ⟨h,hx⟩=>⟨_,_,_,_,rfl,h,hx⟩
set_option maxHeartbeats 1000000 in
theorem wrong_any (s:ByteArray) (w:World) (hg:GoodN w) (hs:s.size<=2097152) :
 Calls Tryz.prog 93 #[.string s] w fun e w'=>e=.returned (.bool (wrongL (bs s)))∧Ext w w':=by
 go_enter Tryz.func93,Tryz.ntmps93
 go_wp2_with fail
 refine (Parse_x s _ hg hs).mono ?_
 rintro e w1 ⟨⟨x,y,z,b⟩,r,hp,rfl,_,hx1⟩
 have HP:=Hy hp
 clear hp
 by_cases h8:r=8
 ·subst h8
  go_wp2
  go_ret
  exact⟨ret_bool (by unfold wrongL;rw[HP.out];rfl),hx1.alloc _⟩
 ·have H8:=Hy h8
  have hb:(r==8)=false:=by rw[beq_eq_false_iff_ne];exact h8
  go_wp2
  go_ret
  exact⟨ret_bool (by unfold wrongL;rw[HP.out];exact (decide_eq_false H8.out).symm),hx1.alloc _⟩
theorem early_len {v:V4} (h:v.err=0):(bs v.a).length<=40:=by
 obtain⟨_,_,_,he⟩:=checkV_ok (show checkV v.a1 v.a2 v.a3 (bs v.a)=0 from h)
 rcases he with he|he
 ·rw[he];simp
 ·unfold earlyL at he
  simp only[Bool.and_eq_true,decide_eq_true_eq] at he
  exact he.2
theorem text_len {v:V4} (h:v.err=0):v.text.length<=110:=by
 have h40:=early_len h
 rw[bs_length] at h40
 obtain⟨⟨a1,a2⟩,⟨b1,b2⟩,⟨c1,c2⟩,_⟩:=checkV_ok (show checkV v.a1 v.a2 v.a3 (bs v.a)=0 from h)
 have la:=Lib.itoa_length_le v.a1 (by omega) (by omega)
 have li:=Lib.itoa_length_le v.a2 (by omega) (by omega)
 have lp:=Lib.itoa_length_le v.a3 (by omega) (by omega)
 unfold V4.text textL
 split<;>simp<;>omega
theorem spText_len {s:Sp} (h1:s.f.err=0) (h2:s.t.err=0):(spText s).length<=224:=by
 have l1:=text_len h1
 have l2:=text_len h2
 unfold spText
 split<;>split<;>simp<;>omega
theorem text_x (v:V4) (w:World) (hg:GoodN w) (hs:v.a.size<=2097152) (h:v.err=0) :
 Calls Tryz.prog 72 #[verV v] w fun e w'=>e=.returned (S v.text)∧Ext w w':=by
 obtain⟨⟨a1,a2⟩,⟨b1,b2⟩,⟨c1,c2⟩,_⟩:=checkV_ok (show checkV v.a1 v.a2 v.a3 (bs v.a)=0 from h)
 exact text_any v.a1 v.a2 v.a3 v.a w hg hs a1 a2 b1 b2 c1 c2
theorem vtext_x (v:V4) (w:World) (hg:GoodN w) (hs:v.a.size<=2097152) (h:v.err=0) :
 Calls Tryz.prog 24 #[verV v] w fun e w'=>e=.returned (S v.text)∧Ext w w':=by
 obtain⟨⟨a1,a2⟩,⟨b1,b2⟩,⟨c1,c2⟩,_⟩:=checkV_ok (show checkV v.a1 v.a2 v.a3 (bs v.a)=0 from h)
 exact VersionText_any v.a1 v.a2 v.a3 v.a w hg hs a1 a2 b1 b2 c1 c2
set_option maxHeartbeats 2000000 in
set_option maxRecDepth 100000 in
theorem spanText_any (s:Sp) (w:World) (hg:GoodN w) (hfs:s.f.a.size<=2097152) (hts:s.t.a.size<=2097152) (h1:s.f.err=0) (h2:s.t.err=0) :
 Calls Tryz.prog 90 #[spV s] w fun e w'=>e=.returned (S (spText s))∧Ext w w':=by
 obtain⟨hf,ht,f,t⟩:=s
 dsimp only at hfs hts h1 h2
 have cF:∀ W w',Ext w W->Ext W w'->Calls Tryz.prog 72 #[verV f] w' fun e w''=>e=.returned (S f.text)∧Ext W w'':=fun W w' hx hy=>(text_x f w' (hg.ext (hx.trans hy)) hfs h1).mono fun _ _ h=>⟨h.1,hy.trans h.2⟩
 have cT:∀ W w',Ext w W->Ext W w'->Calls Tryz.prog 72 #[verV t] w' fun e w''=>e=.returned (S t.text)∧Ext W w'':=fun W w' hx hy=>(text_x t w' (hg.ext (hx.trans hy)) hts h2).mono fun _ _ h=>⟨h.1,hy.trans h.2⟩
 have lF:=text_len h1
 have lT:=text_len h2
 have hX:spText ⟨hf,ht,f,t⟩=if hf=true then (if ht=true then [62,61]++f.text++[32,60]++t.text else [62,61]++f.text) else if ht=true then [60]++t.text else [42]:=rfl
 have HX:=Hy hX
 clear hX
 generalize spText ⟨hf,ht,f,t⟩=X at *
 generalize f.text=F at *
 generalize t.text=T at *
 clear h1 h2
 obtain⟨f1,f2,f3,fa⟩:=f
 obtain⟨t1,t2,t3,ta⟩:=t
 dsimp only[verV] at cF cT
 dsimp only[spV]
 have CF:=Hy cF
 have CT:=Hy cT
 clear cF cT
 go_enter Tryz.func90,Tryz.ntmps90
 cases hf<;>cases ht
 ·go_wp2
  go_ret
  exact⟨ret_strS (by rw[HX.out];rfl),Ext.au⟩
 ·go_wp2_with fail
  refine (CT.out _ _ Ext.au (Ext.refl _)).mono ?_
  rintro e w1 ⟨rfl,hx1⟩
  go_wp2
  go_ret
  exact⟨ret_strS (by rw[HX.out];simp),Ext.trans Ext.au hx1⟩
 ·go_wp2_with fail
  refine (CF.out _ _ Ext.au (Ext.refl _)).mono ?_
  rintro e w1 ⟨rfl,hx1⟩
  go_wp2
  go_ret
  exact⟨ret_strS (by rw[HX.out];simp),Ext.trans Ext.au hx1⟩
 ·go_wp2_with fail
  refine wp_region_ext (by kernel_rfl) (by kernel_rfl) ?_
  repeat (first|go_big_quiet_skip|(refine wpQuiet_step (fun K hK=>?_);go_simp;first|(refine hK _ ?_;clear hK K)|(apply Exists.intro;refine⟨fun wq hwq=>?_,hK _ ?_⟩;(obtain⟨hqc,hqf⟩:=hwq.cells;have hqs:=hwq.size;(try go_simp);first|rfl|((first|rw[if_neg (by omega)]|rw[if_pos (by omega)]);(try go_simp);rfl)|((first|(go_at_call 72;with_reducible exact CF.out _ _ Ext.au hwq)|(go_at_call 72;with_reducible exact CT.out _ _ Ext.au hwq))));clear hK K)))
  refine wpQuiet_nil ?_
  intro wN hxN
  obtain⟨hcN,hfN⟩:=hxN.cells
  have hsN:=hxN.size
  go_wp2
  go_ret
  exact⟨ret_strS (by rw[HX.out];simp),Ext.trans Ext.au hxN⟩
end
section
inductive Cd where
 | mk (kind:Int) (name value:ByteArray) (args:List Cd)
def zeroC:Cd:=.mk 0 ⟨#[]⟩ ⟨#[]⟩ []
abbrev wAlways:Str:=[97,108,119,97,121,115]
abbrev wFact:Str:=[102,97,99,116]
abbrev wSetting:Str:=[115,101,116,116,105,110,103]
abbrev wHas:Str:=[104,97,115]
abbrev wVersion:Str:=[118,101,114,115,105,111,110]
abbrev wNot:Str:=[110,111,116]
abbrev wIn:Str:=[105,110]
abbrev wAnd:Str:=[97,110,100]
abbrev wOr:Str:=[111,114]
section
variable (s:ByteArray) (f:Option (St->Cd × St))
def loopF (f:St->Cd × St) (word:Str):Nat->St->List Cd->List Cd × St
 | 0,σ,l=>(l,σ)
 | m+1,σ,l=>if isF σ 1 word=true then loopF f word m (f (advF s σ)).2 (l++[(f (advF s σ)).1]) else (l,σ)
def left (σ:St):Nat:=if σ.wr < 0 then s.size+1 - σ.p else 0
def headF (f:St->Cd × St) (word:ByteArray) (σ:St):Cd × St :=
 if isF σ 3 [41]=true then (.mk (kindOfL (bs word)) ⟨#[]⟩ ⟨#[]⟩ [],(takeF s σ 3 [41]).2)
 else (.mk (kindOfL (bs word)) ⟨#[]⟩ ⟨#[]⟩ [(f σ).1],(takeF s (f σ).2 3 [41]).2)
def fixF (σ:St):St:=if σ.wr < 0∧(σ.k≠1∨(bs σ.t≠wAnd∧bs σ.t≠wOr)) then failF σ σ.a else σ
def tailF (f:St->Cd × St) (c:Cd) (σ:St):Cd × St :=
 (.mk (kindOfL (bs σ.t)) ⟨#[]⟩ ⟨#[]⟩ (loopF s f (bs σ.t) (left s (fixF σ)) (fixF σ) [c]).1,(takeF s (loopF s f (bs σ.t) (left s (fixF σ)) (fixF σ) [c]).2 3 [41]).2)
def listB (σ:St):Cd × St :=
 match f with
 | none=>(zeroC,failF σ σ.a)
 | some f =>
   if isF (takeF s σ 3 [40]).2 1 wAnd=true then headF s f ⟨#[97,110,100]⟩ (advF s (takeF s σ 3 [40]).2)
   else if isF (takeF s σ 3 [40]).2 1 wOr=true then headF s f ⟨#[111,114]⟩ (advF s (takeF s σ 3 [40]).2)
   else tailF s f (f (takeF s σ 3 [40]).2).1 (f (takeF s σ 3 [40]).2).2
def pairF (σ:St) (kind mid:Int) (midT:Str):Cd × St :=
 (.mk kind (takeF s σ 1 []).1 (takeF s (takeF s (takeF s σ 1 []).2 mid midT).2 2 []).1 [],(takeF s (takeF s (takeF s σ 1 []).2 mid midT).2 2 []).2)
def wordF (a:Int) (x:Str) (σ:St):Cd × St :=
 if x=wAlways then (.mk 1 ⟨#[]⟩ ⟨#[]⟩ [],σ)
 else if x=wFact then pairF s σ 2 3 [61]
 else if x=wSetting then pairF s σ 3 3 [61]
 else if x=wHas then (.mk 4 (takeF s σ 1 []).1 ⟨#[]⟩ [],(takeF s σ 1 []).2)
 else if x=wVersion then pairF s σ 5 1 wIn
 else if x=wNot then (match f with
  | none=>(zeroC,failF σ a)
  | some f=>(.mk 6 ⟨#[]⟩ ⟨#[]⟩ [(f σ).1],(f σ).2))
 else (zeroC,failF σ a)
def condB (σ:St):Cd × St :=
 if isF σ 3 [40]=true then listB s f σ else wordF s f σ.a (bs (takeF s σ 1 []).1) (takeF s σ 1 []).2
end
def condF (s:ByteArray):Nat->St->Cd × St
 | 0=>condB s none
 | n+1=>condB s (some (condF s n))
structure On (s:ByteArray) (σ τ:St):Prop where
 ok:OkS s σ->OkS s τ
 p:OkS s σ->σ.p<=τ.p
 wr:¬ σ.wr < 0->τ.wr=σ.wr
theorem On.refl (s:ByteArray) (σ:St):On s σ σ:=⟨id,fun _=>Nat.le_refl _,fun _=>rfl⟩
theorem On.trans {s:ByteArray} {a b c:St} (h:On s a b) (k:On s b c):On s a c :=
 ⟨fun x=>k.ok (h.ok x),fun x=>Nat.le_trans (h.p x) (k.p (h.ok x)),fun x=>by rw[k.wr (by rw[h.wr x];exact x),h.wr x]⟩
theorem qat_ge (s:ByteArray) (i:Nat) (h:(qat (bs s) i).2.2=true):i < (qat (bs s) i).2.1:=by
 unfold qat at h ⊢
 cases hu:unq ((bs s).drop (i+1)) with
 | none=>rw[hu] at h;cases h
 | some x =>
   obtain⟨t,z⟩:=x
   have:=(unq_len hu).2
   have hne:(bs s).drop (i+1)≠[]:=fun e=>by rw[e,unq_nil] at hu;cases hu
   have hl:i+1 < (bs s).length:=by
    apply Classical.byContradiction
    intro hh
    exact hne (List.drop_of_length_le (by omega))
   rw[List.length_drop] at this
   show i < (bs s).length - z.length
   omega
theorem tokF_p {s:ByteArray} {σ:St} {i:Nat}:i<=(tokF s σ i).p:=by
 unfold tokF
 split
 ·split
  ·show i<=i+1;omega
  ·split
   ·split
    ·rename_i h;exact Nat.le_of_lt (qat_ge s i h)
    ·exact Nat.le_refl _
   ·show i<=i+_;omega
 ·exact Nat.le_refl _
theorem tokF_lt {s:ByteArray} {σ:St} {i:Nat} (hb:∀ h:i < s.size,blankB s[i]=false) (h0:(tokF s σ i).k≠0) (h4:(tokF s σ i).k≠4):i < (tokF s σ i).p:=by
 unfold tokF at h0 h4 ⊢
 split at h0
 ·rename_i hi
  rw[dif_pos hi] at h4 ⊢
  by_cases hs:signB s[i]=true
  ·rw[if_pos hs];show i < i+1;omega
  ·rw[if_neg hs] at h4 ⊢
   by_cases hq:s[i]=34
   ·rw[if_pos hq] at h4 ⊢
    by_cases ho:(qat (bs s) i).2.2=true
    ·rw[if_pos ho];exact qat_ge s i ho
    ·rw[if_neg ho] at h4;exact absurd rfl h4
   ·rw[if_neg hq]
    have hw:tokB s[i]=true:=by
     unfold tokB
     rw[hb hi,(Bool.not_eq_true _).mp hs]
     simpa using hq
    have:=runN_yes tokB s hi hw
    show i < i+runN tokB ((bs s).drop i)
    omega
 ·exact absurd rfl h0
theorem run_stop (f:UInt8->Bool) (s:ByteArray):∀ (m k:Nat),s.size - k=m->∀ h:k+runN f ((bs s).drop k) < s.size,f s[k+runN f ((bs s).drop k)]=false
 | m,k,hm,h=>by
   by_cases hk:k < s.size
   ·cases hf:f s[k]
    ·have e:=runN_no f s hk hf
     simp only[e];exact hf
    ·have e:=runN_yes f s hk hf
     simp only[e] at h ⊢
     exact run_stop f s (s.size - (k+1)) (k+1) rfl h
   ·have e:=runN_out f s (Nat.le_of_not_lt hk)
    omega
 termination_by m=>m
 decreasing_by omega
theorem advF_on (s:ByteArray) (σ:St):On s σ (advF s σ) :=
 ⟨fun h=>advF_ok h,fun _=>Nat.le_trans (Nat.le_add_right _ _) tokF_p,fun _=>tokF_wr s σ _⟩
theorem advF_lt {s:ByteArray} {σ:St} (h0:(advF s σ).k≠0) (h4:(advF s σ).k≠4):σ.p < (advF s σ).p :=
 Nat.lt_of_le_of_lt (Nat.le_add_right _ _) (tokF_lt (fun h=>run_stop blankB s _ _ rfl h) h0 h4)
theorem takeF_on (s:ByteArray) (σ:St) (k:Int) (t:Str):On s σ (takeF s σ k t).2:=by
 refine⟨fun h=>(takeF_ok h k t).1,fun h=>?_,fun h=>?_⟩
 ·unfold takeF
  split
  ·exact Nat.le_refl _
  ·split
   ·exact Nat.le_refl _
   ·exact (advF_on s σ).p h
 ·unfold takeF
  rw[if_pos h]
theorem failF_on (s:ByteArray) (σ:St) (a:Int):On s σ (failF σ a):=by
 unfold failF
 refine⟨fun h=>?_,fun _=>?_,fun h=>by rw[if_neg h]⟩
 ·split
  ·exact⟨h.p,h.a,h.t⟩
  ·exact h
 ·split<;>exact Nat.le_refl _
end
section
section
variable {s:ByteArray}
theorem fixF_on (σ:St):On s σ (fixF σ):=by
 unfold fixF
 split
 ·exact failF_on s σ _
 ·exact On.refl s σ
theorem loopF_on {f:St->Cd × St} (hf:∀ σ,On s σ (f σ).2) (word:Str):∀ m σ l,On s σ (loopF s f word m σ l).2
 | 0,σ,_=>On.refl s σ
 | m+1,σ,l=>by
   rw[loopF]
   split
   ·exact ((advF_on s σ).trans (hf _)).trans (loopF_on hf word m _ _)
   ·exact On.refl s σ
theorem headF_on {f:St->Cd × St} (hf:∀ σ,On s σ (f σ).2) (word:ByteArray) (σ:St):On s σ (headF s f word σ).2:=by
 unfold headF
 split
 ·exact takeF_on s σ _ _
 ·exact (hf σ).trans (takeF_on s _ _ _)
theorem tailF_on {f:St->Cd × St} (hf:∀ σ,On s σ (f σ).2) (c:Cd) (σ:St):On s σ (tailF s f c σ).2 :=
 ((fixF_on σ).trans (loopF_on hf _ _ _ _)).trans (takeF_on s _ _ _)
theorem listB_on {f:Option (St->Cd × St)} (hf:∀ g,f=some g->∀ σ,On s σ (g σ).2) (σ:St):On s σ (listB s f σ).2:=by
 unfold listB
 cases f with
 | none=>exact failF_on s σ _
 | some g =>
   dsimp only
   have h:=hf g rfl
   have h1:=takeF_on s σ 3 [40]
   split
   ·exact (h1.trans (advF_on s _)).trans (headF_on h _ _)
   ·split
    ·exact (h1.trans (advF_on s _)).trans (headF_on h _ _)
    ·exact (h1.trans (h _)).trans (tailF_on h _ _)
theorem pairF_on (σ:St) (kind mid:Int) (t:Str):On s σ (pairF s σ kind mid t).2:=((takeF_on s σ _ _).trans (takeF_on s _ _ _)).trans (takeF_on s _ _ _)
theorem wordF_on {f:Option (St->Cd × St)} (hf:∀ g,f=some g->∀ σ,On s σ (g σ).2) (a:Int) (x:Str) (σ:St):On s σ (wordF s f a x σ).2:=by
 unfold wordF
 split
 ·exact On.refl s σ
 split
 ·exact pairF_on σ _ _ _
 split
 ·exact pairF_on σ _ _ _
 split
 ·exact takeF_on s σ _ _
 split
 ·exact pairF_on σ _ _ _
 split
 ·cases f with
  | none=>exact failF_on s σ a
  | some g=>exact hf g rfl σ
 ·exact failF_on s σ a
theorem condB_on {f:Option (St->Cd × St)} (hf:∀ g,f=some g->∀ σ,On s σ (g σ).2) (σ:St):On s σ (condB s f σ).2:=by
 unfold condB
 split
 ·exact listB_on hf σ
 ·exact (takeF_on s σ _ _).trans (wordF_on hf _ _ _)
theorem condF_on:∀ n (σ:St),On s σ (condF s n σ).2
 | 0,σ=>condB_on (fun _ h=>by cases h) σ
 | n+1,σ=>condB_on (fun g h=>by cases h;exact condF_on n) σ
theorem condB_end {f:Option (St->Cd × St)} {σ:St} (hw:σ.wr < 0) (hk:σ.k=0∨σ.k=4):¬ (condB s f σ).2.wr < 0:=by
 have h3:isF σ 3 [40]=false:=by
  unfold isF
  rw[decide_eq_false (show ¬ σ.k=3 by omega)]
  simp
 have ht:takeF s σ 1 []=(⟨#[]⟩,{ σ with wr:=σ.a }):=by
  unfold takeF
  rw[if_neg (Classical.not_not.2 hw),if_pos (.inl (by omega))]
 have hx:bs (⟨#[]⟩:ByteArray)=[]:=rfl
 unfold condB
 rw[h3,if_neg (by decide),ht,hx]
 have hf:wordF s f σ.a [] { σ with wr:=σ.a }=(zeroC,failF { σ with wr:=σ.a } σ.a):=by
  unfold wordF
  simp
 rw[hf]
 show ¬ (failF { σ with wr:=σ.a } σ.a).wr < 0
 unfold failF
 rw[if_neg (show ¬ (σ.a:Int) < 0 by omega)]
 show ¬ (σ.a:Int) < 0
 omega
theorem condF_end {n:Nat} {σ:St} (hw:σ.wr < 0) (hk:σ.k=0∨σ.k=4):¬ (condF s n σ).2.wr < 0:=by
 cases n with
 | zero=>exact condB_end hw hk
 | succ n=>exact condB_end hw hk
theorem isF_wr {σ:St} {k:Int} {t:Str} (h:isF σ k t=true):σ.wr < 0:=by
 unfold isF at h
 simp only[Bool.and_eq_true,decide_eq_true_eq] at h
 exact h.1.1
theorem left_lt {n:Nat} {σ:St} {word:Str} (ho:OkS s σ) (h:isF σ 1 word=true):left s (condF s n (advF s σ)).2 < left s σ:=by
 have hw:=isF_wr h
 have hp:=ho.p
 unfold left
 rw[if_pos hw]
 split
 ·rename_i h2
  have hk:¬ ((advF s σ).k=0∨(advF s σ).k=4):=fun hk=>condF_end (by rw[show (advF s σ).wr=σ.wr from tokF_wr s σ _];exact hw) hk h2
  have h1:σ.p < (advF s σ).p:=advF_lt (fun e=>hk (.inl e)) (fun e=>hk (.inr e))
  have h3:=(condF_on n (advF s σ)).p (advF_ok ho)
  omega
 ·omega
theorem left_zero {σ:St} (ho:OkS s σ) (h:left s σ=0) {k:Int} {t:Str}:isF σ k t=false:=by
 cases hi:isF σ k t
 ·rfl
 ·have:=isF_wr hi
  have hp:=ho.p
  unfold left at h
  rw[if_pos this] at h
  omega
theorem loopF_more {n:Nat} {word:Str}:∀ m σ l,OkS s σ->left s σ<=m->loopF s (condF s n) word m σ l=loopF s (condF s n) word (left s σ) σ l
 | 0,σ,l,ho,h=>by rw[show left s σ=0 by omega]
 | m+1,σ,l,ho,h=>by
   cases hi:isF σ 1 word
   ·cases hl:left s σ with
    | zero=>simp[loopF,hi]
    | succ k=>simp[loopF,hi]
   ·have h1:=left_lt (n:=n) ho hi
    have ho2:=(condF_on n (advF s σ)).ok (advF_ok ho)
    obtain⟨k,hk⟩:∃ k,left s σ=k+1:=⟨left s σ - 1,by omega⟩
    rw[hk,loopF,loopF,hi,if_pos rfl,if_pos rfl,loopF_more m _ _ ho2 (by omega)]
    by_cases hkm:k=m
    ·subst hkm;rw[loopF_more k _ _ ho2 (by omega)]
    ·rw[loopF_more k _ _ ho2 (by omega)]
theorem loopF_step {n:Nat} {word:Str} {σ:St} {l:List Cd} (ho:OkS s σ) (hi:isF σ 1 word=true) :
 loopF s (condF s n) word (left s σ) σ l=loopF s (condF s n) word (left s (condF s n (advF s σ)).2) (condF s n (advF s σ)).2 (l++[(condF s n (advF s σ)).1]):=by
 have h1:=left_lt (n:=n) ho hi
 have ho2:=(condF_on n (advF s σ)).ok (advF_ok ho)
 obtain⟨k,hk⟩:∃ k,left s σ=k+1:=⟨left s σ - 1,by omega⟩
 rw[hk,loopF,if_pos hi,loopF_more k _ _ ho2 (by omega)]
theorem loopF_stop {n:Nat} {word:Str} {σ:St} {l:List Cd} (hi:isF σ 1 word=false):loopF s (condF s n) word (left s σ) σ l=(l,σ):=by
 cases left s σ with
 | zero=>rfl
 | succ k=>rw[loopF,hi];rfl
end
end
section
open Go.RowKit
inductive CdIn (P:Nat->Prop) (w:World):Cd->Value->Prop where
 | mk (k:Int) (n x:ByteArray) (l:List Cd) (A:Option Addr) (c b o:Nat) (u0 u1 u2 u3:Nat->Value) (hA:0 < l.length->A=some ⟨b,o,none⟩) (hb:0 < l.length->P b)
   (h0:∀ j,j < l.length->w.cell? ⟨b,o+j * 4,none⟩=some (u0 j)) (h1:∀ j,j < l.length->w.cell? ⟨b,o+j * 4+1,none⟩=some (u1 j))
   (h2:∀ j,j < l.length->w.cell? ⟨b,o+j * 4+2,none⟩=some (u2 j)) (h3:∀ j,j < l.length->w.cell? ⟨b,o+j * 4+3,none⟩=some (u3 j))
   (hr:∀ j (hj:j < l.length),CdIn P w l[j] (.agg #[u0 j,u1 j,u2 j,u3 j])):CdIn P w (.mk k n x l) (.agg #[.int .i64 k,.string n,.string x,.slice A l.length c])
abbrev CdAt (B:Nat):World->Cd->Value->Prop:=CdIn (fun b=>B<=b)
theorem CdIn.keep {P:Nat->Prop} {w w':World} (hc:∀ b o v,P b->w.cell? ⟨b,o,none⟩=some v->w'.cell? ⟨b,o,none⟩=some v) {c:Cd} {v:Value} (h:CdIn P w c v):CdIn P w' c v:=by
 induction h with
 | mk k n x l A c b o u0 u1 u2 u3 hA hb h0 h1 h2 h3 hr ih =>
   have hp:∀ j,j < l.length->P b:=fun j hj=>hb (by omega)
   exact .mk k n x l A c b o u0 u1 u2 u3 hA hb (fun j hj=>hc b _ _ (hp j hj) (h0 j hj)) (fun j hj=>hc b _ _ (hp j hj) (h1 j hj)) (fun j hj=>hc b _ _ (hp j hj) (h2 j hj)) (fun j hj=>hc b _ _ (hp j hj) (h3 j hj)) ih
theorem CdIn.imp {P P':Nat->Prop} {w:World} (hp:∀ b,b < w.heap.size->P b->P' b) {c:Cd} {v:Value} (h:CdIn P w c v):CdIn P' w c v:=by
 induction h with
 | mk k n x l A c b o u0 u1 u2 u3 hA hb h0 h1 h2 h3 hr ih =>
   exact .mk k n x l A c b o u0 u1 u2 u3 hA (fun h=>hp b (lt_of_cell (h0 0 h)) (hb h)) h0 h1 h2 h3 ih
theorem CdIn.ext {P:Nat->Prop} {w w':World} (hx:Ext w w') {c:Cd} {v:Value} (h:CdIn P w c v):CdIn P w' c v:=h.keep fun _ _ _ _ e=>hx.cell e
theorem CdAt.ext {B:Nat} {w w':World} (hx:Ext w w') {c:Cd} {v:Value} (h:CdAt B w c v):CdAt B w' c v:=h.keep fun _ _ _ _ e=>hx.cell e
theorem CdAt.extX {g B:Nat} {w w':World} (hx:ExtX g w w') (hg:g < B) {c:Cd} {v:Value} (h:CdAt B w c v):CdAt B w' c v:=h.keep fun _ _ _ hb e=>hx.cell (by omega) e
theorem cell_set_far {w:World} {p:Addr} {u v:Value} {b o:Nat} (hb:b≠p.block) (e:w.cell? ⟨b,o,none⟩=some v):(w.setCell p u).cell? ⟨b,o,none⟩=some v:=by
 unfold World.cell? at e ⊢
 simp only[World.setCell,Array.getElem?_modify]
 rw[if_neg (by omega)]
 exact e
theorem CdIn.set {P:Nat->Prop} {w:World} {p:Addr} (hp:¬ P p.block) (u:Value) {c:Cd} {v:Value} (h:CdIn P w c v):CdIn P (w.setCell p u) c v:=h.keep fun _ _ _ hb e=>cell_set_far (fun x=>hp (x ▸ hb)) e
theorem CdAt.set {B:Nat} {w:World} {p:Addr} (hp:p.block < B) (u:Value) {c:Cd} {v:Value} (h:CdAt B w c v):CdAt B (w.setCell p u) c v:=h.keep fun _ _ _ hb e=>cell_set_far (by omega) e
theorem CdAt.low {B B':Nat} {w:World} (hB:B<=B') {c:Cd} {v:Value} (h:CdAt B' w c v):CdAt B w c v:=h.imp fun _ _ hb=>Nat.le_trans hB hb
theorem CdIn.leaf (P:Nat->Prop) (w:World) (k:Int) (n x:ByteArray):CdIn P w (.mk k n x []) (.agg #[.int .i64 k,.string n,.string x,.slice none 0 0]) :=
 .mk k n x [] none 0 0 0 (fun _=>.int .i64 0) (fun _=>.int .i64 0) (fun _=>.int .i64 0) (fun _=>.int .i64 0) (fun h=>absurd h (Nat.lt_irrefl _)) (fun h=>absurd h (Nat.lt_irrefl _)) (fun _ h=>absurd h (Nat.not_lt_zero _)) (fun _ h=>absurd h (Nat.not_lt_zero _)) (fun _ h=>absurd h (Nat.not_lt_zero _)) (fun _ h=>absurd h (Nat.not_lt_zero _)) (fun _ h=>absurd h (Nat.not_lt_zero _))
theorem CdAt.leaf (B:Nat) (w:World) (k:Int) (n x:ByteArray):CdAt B w (.mk k n x []) (.agg #[.int .i64 k,.string n,.string x,.slice none 0 0]):=CdIn.leaf _ w k n x
theorem CdIn.cells {P:Nat->Prop} {w:World} {c:Cd} {v:Value} (h:CdIn P w c v):∃ (k:Int) (n x:ByteArray) (A:Option Addr) (m cp:Nat),v=.agg #[.int .i64 k,.string n,.string x,.slice A m cp]:=by
 cases h with
 | mk k n x l A c b o u0 u1 u2 u3=>exact⟨k,n,x,A,_,c,rfl⟩
theorem CdAt.cells {B:Nat} {w:World} {c:Cd} {v:Value} (h:CdAt B w c v):∃ (k:Int) (n x:ByteArray) (A:Option Addr) (m cp:Nat),v=.agg #[.int .i64 k,.string n,.string x,.slice A m cp]:=CdIn.cells h
def z0:Value:=.bool false
structure CdRow (P:Nat->Prop) (w:World) (l:List Cd) (xs:List Value):Prop where
 len:xs.length=l.length * 4
 at_:∀ j (hj:j < l.length),CdIn P w l[j] (.agg #[xs.getD (j * 4) z0,xs.getD (j * 4+1) z0,xs.getD (j * 4+2) z0,xs.getD (j * 4+3) z0])
theorem CdRow.nil (P:Nat->Prop) (w:World):CdRow P w [] []:=⟨rfl,fun _ h=>absurd h (Nat.not_lt_zero _)⟩
theorem CdRow.keep {P P':Nat->Prop} {w w':World} {l:List Cd} {xs:List Value} (h:CdRow P w l xs) (hp:∀ b,b < w.heap.size->P b->P' b) (hc:∀ b o v,b < w.heap.size->P b->w.cell? ⟨b,o,none⟩=some v->w'.cell? ⟨b,o,none⟩=some v):CdRow P' w' l xs:=by
 refine⟨h.len,fun j hj=>?_⟩
 have h1:CdIn (fun b=>b < w.heap.size∧P b) w l[j] _:=(h.at_ j hj).imp fun b hb hP=>⟨hb,hP⟩
 have h2:CdIn (fun b=>b < w.heap.size∧P b) w' l[j] _:=h1.keep fun b o v hP e=>hc b o v hP.1 hP.2 e
 have h3:CdIn (fun b=>b < w.heap.size∧P b) w l[j] _:=h1
 clear h3
 -- the blocks told are the old world's
 have h4:∀ {c:Cd} {v:Value},CdIn (fun b=>b < w.heap.size∧P b) w' c v->CdIn P' w' c v:=by
  intro c v h
  induction h with
  | mk k n x l A c b o u0 u1 u2 u3 hA hb h0 h1 h2 h3 hr ih=>exact .mk k n x l A c b o u0 u1 u2 u3 hA (fun h=>hp b (hb h).1 (hb h).2) h0 h1 h2 h3 ih
 exact h4 h2
theorem CdRow.ext {P:Nat->Prop} {w w':World} {l:List Cd} {xs:List Value} (h:CdRow P w l xs) (hx:Ext w w'):CdRow P w' l xs:=h.keep (fun _ _ h=>h) fun _ _ _ _ _ e=>hx.cell e
theorem CdRow.snoc {P:Nat->Prop} {w:World} {l:List Cd} {xs:List Value} (h:CdRow P w l xs) {c:Cd} {u0 u1 u2 u3:Value} (hc:CdIn P w c (.agg #[u0,u1,u2,u3])):CdRow P w (l++[c]) (xs++[u0,u1,u2,u3]):=by
 refine⟨by rw[List.length_append,List.length_append,h.len];simp;omega,fun j hj=>?_⟩
 rw[List.length_append] at hj
 by_cases hlt:j < l.length
 ·have hx:∀ i,i < 4->(xs++[u0,u1,u2,u3]).getD (j * 4+i) z0=xs.getD (j * 4+i) z0:=fun i hi=>by
   rw[List.getD_eq_getElem?_getD,List.getD_eq_getElem?_getD,List.getElem?_append_left (by rw[h.len];omega)]
  have h0:=hx 0 (by omega)
  rw[Nat.add_zero] at h0
  rw[h0,hx 1 (by omega),hx 2 (by omega),hx 3 (by omega),List.getElem_append_left hlt]
  exact h.at_ j hlt
 ·have e:j=l.length:=by simp at hj;omega
  subst e
  have hx:∀ i u,([u0,u1,u2,u3]:List Value)[i]?=some u->(xs++[u0,u1,u2,u3]).getD (l.length * 4+i) z0=u:=fun i u hu=>by
   rw[List.getD_eq_getElem?_getD,List.getElem?_append_right (by rw[h.len];omega),h.len,Nat.add_sub_cancel_left,hu]
   rfl
  have h0:=hx 0 u0 rfl
  rw[Nat.add_zero] at h0
  rw[h0,hx 1 u1 rfl,hx 2 u2 rfl,hx 3 u3 rfl]
  simpa using hc
theorem CdIn.ofRow {P:Nat->Prop} {w:World} {l:List Cd} {xs:List Value} (h:CdRow P w l xs) (k:Int) (n x:ByteArray) {A:Option Addr} {cp b:Nat} (hA:0 < l.length->A=some ⟨b,0,none⟩) (hb:0 < l.length->P b) (hc:∀ j u,xs[j]?=some u->w.cell? ⟨b,j,none⟩=some u) :
 CdIn P w (.mk k n x l) (.agg #[.int .i64 k,.string n,.string x,.slice A l.length cp]):=by
 have hx:∀ j i,j < l.length->i < 4->w.cell? ⟨b,0+j * 4+i,none⟩=some (xs.getD (j * 4+i) z0):=fun j i hj hi=>by
  have hlt:j * 4+i < xs.length:=by rw[h.len];omega
  rw[Nat.zero_add]
  refine hc _ _ ?_
  rw[List.getD_eq_getElem?_getD,List.getElem?_eq_getElem hlt]
  rfl
 exact .mk k n x l A cp b 0 (fun j=>xs.getD (j * 4) z0) (fun j=>xs.getD (j * 4+1) z0) (fun j=>xs.getD (j * 4+2) z0) (fun j=>xs.getD (j * 4+3) z0) hA hb
  (fun j hj=>hx j 0 hj (by omega)) (fun j hj=>hx j 1 hj (by omega)) (fun j hj=>hx j 2 hj (by omega)) (fun j hj=>hx j 3 hj (by omega)) (fun j hj=>h.at_ j hj)
theorem CdAt.one {B:Nat} {w:World} {k:Int} {n x:ByteArray} {c:Cd} {b cp:Nat} {u0 u1 u2 u3:Value} (hb:B<=b) (h0:w.cell? ⟨b,0,none⟩=some u0) (h1:w.cell? ⟨b,1,none⟩=some u1) (h2:w.cell? ⟨b,2,none⟩=some u2) (h3:w.cell? ⟨b,3,none⟩=some u3)
 (h:CdAt B w c (.agg #[u0,u1,u2,u3])):CdAt B w (.mk k n x [c]) (.agg #[.int .i64 k,.string n,.string x,.slice (some ⟨b,0,none⟩) 1 cp]):=by
 have z:∀ j,j < [c].length->j=0:=fun j hj=>by simpa using hj
 exact .mk k n x [c] _ cp b 0 (fun _=>u0) (fun _=>u1) (fun _=>u2) (fun _=>u3) (fun _=>rfl) (fun _=>hb)
  (fun j hj=>by obtain rfl:=z j hj;exact h0) (fun j hj=>by obtain rfl:=z j hj;exact h1) (fun j hj=>by obtain rfl:=z j hj;exact h2) (fun j hj=>by obtain rfl:=z j hj;exact h3)
  (fun j hj=>by obtain rfl:=z j hj;exact h)
def CdPost (g:Nat) (s:ByteArray) (w:World) (r:Cd × St) (e:Ending) (w':World):Prop:=∃ v,e=.returned v∧CdAt w.heap.size w' r.1 v∧Rd w' g s r.2∧ExtX g w w'
end
section
structure Wd where
 t:ByteArray
 k:UInt8
 a:Nat
 v:ByteArray
abbrev zeroW:Wd:=⟨⟨#[]⟩,0,0,⟨#[]⟩⟩
def kindW (k:Int) (t:ByteArray):UInt8:=if k=3 then t.data.toList.headD 0 else if k=2 then 113 else 119
def wdOf (k:Int) (a:Nat) (t:ByteArray):Wd:=if k=2 then ⟨⟨#[]⟩,113,a,t⟩ else ⟨t,kindW k t,a,⟨#[]⟩⟩
def endW (s:ByteArray):Wd:=⟨⟨#[]⟩,101,s.size,⟨#[]⟩⟩
def badW (a:Nat):Wd:=⟨⟨#[]⟩,33,a,⟨#[]⟩⟩
abbrev at0 (i:Nat):St:=⟨i,0,0,⟨#[]⟩,-1⟩
def wordsT (s:ByteArray) (i:Nat):List Wd :=
 if _h0:(advF s (at0 i)).k=0 then [endW s]
 else if _h4:(advF s (at0 i)).k=4 then [badW (advF s (at0 i)).a,endW s]
 else if _hp:(advF s (at0 i)).p<=s.size then wdOf (advF s (at0 i)).k (advF s (at0 i)).a (advF s (at0 i)).t::wordsT s (advF s (at0 i)).p
 else []
 termination_by s.size - i
 decreasing_by
  have:=advF_lt _h0 _h4
  dsimp only at this
  omega
theorem tokF_same (s:ByteArray) (σ τ:St) (i:Nat):(tokF s σ i).k=(tokF s τ i).k∧(tokF s σ i).a=(tokF s τ i).a∧(tokF s σ i).t=(tokF s τ i).t∧(tokF s σ i).p=(tokF s τ i).p:=by
 unfold tokF
 repeat' split
 all_goals exact⟨rfl,rfl,rfl,rfl⟩
theorem wordsT_eq (s:ByteArray) (i:Nat):wordsT s i=(fun T:St=>if T.k=0 then [endW s] else if T.k=4 then [badW T.a,endW s] else if T.p<=s.size then wdOf T.k T.a T.t::wordsT s T.p else []) (advF s (at0 i)):=by
 rw[wordsT]
 simp only[dite_eq_ite]
theorem words_end {s:ByteArray} {i:Nat} (h:s.size<=i):wordsT s i=[endW s]:=by
 have e:(advF s (at0 i)).k=0:=by
  unfold advF
  rw[show (at0 i).p=i from rfl,runN_out blankB s h,tokF,dif_neg (Nat.not_lt.2 h)]
 rw[wordsT_eq]
 exact if_pos e
theorem adv_blank {s:ByteArray} {i:Nat} (h:i < s.size) (hb:blankB s[i]=true):advF s (at0 i)=advF s (at0 (i+1)):=by
 unfold advF
 rw[show (at0 i).p=i from rfl,show (at0 (i+1)).p=i+1 from rfl,runN_yes blankB s h hb]
 unfold tokF
 rfl
theorem words_blank {s:ByteArray} {i:Nat} (h:i < s.size) (hb:blankB s[i]=true):wordsT s i=wordsT s (i+1):=by
 have e:=adv_blank h hb
 rw[wordsT_eq,wordsT_eq s (i+1),e]
theorem adv_here {s:ByteArray} {i:Nat} (h:i < s.size) (hb:blankB s[i]=false):advF s (at0 i)=tokF s (at0 i) i:=by
 unfold advF
 rw[show (at0 i).p=i from rfl,runN_no blankB s h hb]
theorem words_sign {s:ByteArray} {i:Nat} (h:i < s.size) (hb:blankB s[i]=false) (hs:signB s[i]=true):wordsT s i=⟨⟨#[s[i]]⟩,s[i],i,⟨#[]⟩⟩::wordsT s (i+1):=by
 have e:advF s (at0 i)=⟨i+1,3,i,⟨#[s[i]]⟩,-1⟩:=by rw[adv_here h hb,tokF,dif_pos h,if_pos hs]
 rw[wordsT_eq,e]
 dsimp only
 rw[if_neg (by decide),if_neg (by decide),if_pos (show i+1<=s.size from h)]
 rfl
theorem words_quote {s:ByteArray} {i:Nat} (h:i < s.size) (hb:blankB s[i]=false) (hs:¬ signB s[i]=true) (hq:s[i]=34) (ho:(qat (bs s) i).2.2=true) :
 wordsT s i=⟨⟨#[]⟩,113,i,⟨(qat (bs s) i).1.toArray⟩⟩::wordsT s (qat (bs s) i).2.1:=by
 have e:advF s (at0 i)=⟨(qat (bs s) i).2.1,2,i,⟨(qat (bs s) i).1.toArray⟩,-1⟩:=by rw[adv_here h hb,tokF,dif_pos h,if_neg hs,if_pos hq,if_pos ho]
 rw[wordsT_eq,e]
 dsimp only
 rw[if_neg (by decide),if_neg (by decide),if_pos (show (qat (bs s) i).2.1<=s.size from (qat_le s i).1)]
 rfl
theorem words_broken {s:ByteArray} {i:Nat} (h:i < s.size) (hb:blankB s[i]=false) (hs:¬ signB s[i]=true) (hq:s[i]=34) (ho:¬ (qat (bs s) i).2.2=true):wordsT s i=[badW i,endW s]:=by
 have e:advF s (at0 i)=⟨i,4,i,⟨#[]⟩,-1⟩:=by rw[adv_here h hb,tokF,dif_pos h,if_neg hs,if_pos hq,if_neg ho]
 rw[wordsT_eq,e]
 dsimp only
 rw[if_neg (by decide),if_pos rfl]
theorem words_word {s:ByteArray} {i:Nat} (h:i < s.size) (hb:blankB s[i]=false) (hs:¬ signB s[i]=true) (hq:¬ s[i]=34) :
 wordsT s i=⟨s.extract i (i+runN tokB ((bs s).drop i)),119,i,⟨#[]⟩⟩::wordsT s (i+runN tokB ((bs s).drop i)):=by
 have e:advF s (at0 i)=⟨i+runN tokB ((bs s).drop i),1,i,s.extract i (i+runN tokB ((bs s).drop i)),-1⟩:=by rw[adv_here h hb,tokF,dif_pos h,if_neg hs,if_neg hq]
 rw[wordsT_eq,e]
 dsimp only
 rw[if_neg (by decide),if_neg (by decide),if_pos (show i+runN tokB ((bs s).drop i)<=s.size from run_le tokB s (Nat.le_of_lt h))]
 rfl
theorem words_ne (s:ByteArray) (i:Nat) (h:i<=s.size):wordsT s i≠[]:=by
 have hok:(advF s (at0 i)).p<=s.size:=(tokF_ok (s:=s) (σ:=at0 i) (run_le blankB s h)).p
 rw[wordsT_eq]
 dsimp only
 rw[if_pos hok]
 split
 ·simp
 ·split<;>simp
structure Rs where
 l:List Wd
 bad:Int
def Rs.hd (τ:Rs):Wd:=τ.l.headD zeroW
def isR (τ:Rs) (k:UInt8) (t:Str):Bool:=decide (τ.bad < 0)&&decide (τ.hd.k=k)&&(decide (t=[])||decide (bs τ.hd.t=t))
def nextR (τ:Rs) (k:UInt8) (t:Str):Wd × Rs :=
 if ¬ τ.bad < 0 then (zeroW,τ)
 else if τ.hd.k≠k∨(t≠[]∧bs τ.hd.t≠t) then (zeroW,⟨τ.l,τ.hd.a⟩)
 else (τ.hd,if τ.hd.k≠101 then ⟨τ.l.tail,τ.bad⟩ else τ)
section
variable (f:Rs->Cd × Rs)
def loopR (word:Str):Nat->Bool->Rs->List Cd->List Cd × Rs
 | 0,_,τ,l=>(l,τ)
 | m+1,more,τ,l =>
   if ¬ τ.bad < 0 then (l,τ)
   else if more=true∧isR τ 41 []=true then (l,(nextR τ 41 []).2)
   else loopR word m true (f (nextR τ 119 word).2).2 (l++[(f (nextR τ 119 word).2).1])
def leftR (τ:Rs):Nat:=if τ.bad < 0 then τ.l.length+1 else 0
def headR (kind:Int) (τ:Rs):Cd × Rs :=
 if isR τ 41 []=true then (.mk kind ⟨#[]⟩ ⟨#[]⟩ [],(nextR τ 41 []).2)
 else (.mk kind ⟨#[]⟩ ⟨#[]⟩ [(f τ).1],(nextR (f τ).2 41 []).2)
def tailR (c:Cd) (τ:Rs):Cd × Rs :=
 if isR τ 119 wOr=true then (.mk 8 ⟨#[]⟩ ⟨#[]⟩ (loopR f wOr (leftR τ) false τ [c]).1,(loopR f wOr (leftR τ) false τ [c]).2)
 else (.mk 7 ⟨#[]⟩ ⟨#[]⟩ (loopR f wAnd (leftR τ) false τ [c]).1,(loopR f wAnd (leftR τ) false τ [c]).2)
def groupR (τ:Rs):Cd × Rs :=
 if isR (nextR τ 40 []).2 119 wAnd=true then headR f 7 (nextR (nextR τ 40 []).2 119 wAnd).2
 else if isR (nextR τ 40 []).2 119 wOr=true then headR f 8 (nextR (nextR τ 40 []).2 119 wOr).2
 else tailR f (f (nextR τ 40 []).2).1 (f (nextR τ 40 []).2).2
end
def pairR (τ:Rs) (kind:Int) (mid:UInt8) (midT:Str):Cd × Rs :=
 (.mk kind (nextR τ 119 []).1.t (nextR (nextR (nextR τ 119 []).2 mid midT).2 113 []).1.v [],(nextR (nextR (nextR τ 119 []).2 mid midT).2 113 []).2)
def condR (f:Option (Rs->Cd × Rs)) (τ:Rs):Cd × Rs :=
 match f with
 | none =>
   if isR τ 40 []=true∨isR τ 119 wNot=true then (zeroC,⟨τ.l,τ.hd.a⟩) else restR none τ
 | some f=>if isR τ 40 []=true then groupR f τ else restR (some f) τ
where
 restR (f:Option (Rs->Cd × Rs)) (τ:Rs):Cd × Rs :=
  if isR τ 119 wAlways=true then (.mk 1 ⟨#[]⟩ ⟨#[]⟩ [],(nextR τ 119 wAlways).2)
  else if isR τ 119 wFact=true then pairR (nextR τ 119 wFact).2 2 61 []
  else if isR τ 119 wSetting=true then pairR (nextR τ 119 wSetting).2 3 61 []
  else if isR τ 119 wHas=true then (.mk 4 (nextR (nextR τ 119 wHas).2 119 []).1.t ⟨#[]⟩ [],(nextR (nextR τ 119 wHas).2 119 []).2)
  else if isR τ 119 wVersion=true then pairR (nextR τ 119 wVersion).2 5 119 wIn
  else if isR τ 119 wNot=true then (match f with
   | none=>(zeroC,τ)
   | some f=>(.mk 6 ⟨#[]⟩ ⟨#[]⟩ [(f (nextR τ 119 wNot).2).1],(f (nextR τ 119 wNot).2).2))
  else (zeroC,if τ.bad < 0 then ⟨τ.l,τ.hd.a⟩ else τ)
def condRF:Nat->Rs->Cd × Rs
 | 0=>condR none
 | n+1=>condR (some (condRF n))
end
section
def LastE (W:List Wd):Prop:=∃ P e,W=P++[e]∧e.k=101
def SufR (W:List Wd) (τ:Rs):Prop:=∃ j,j < W.length∧τ.l=W.drop j
structure OnR (W:List Wd) (τ υ:Rs):Prop where
 suf:SufR W τ->SufR W υ
 len:υ.l.length<=τ.l.length
 bad:¬ τ.bad < 0->υ.bad=τ.bad
theorem OnR.refl (W:List Wd) (τ:Rs):OnR W τ τ:=⟨id,Nat.le_refl _,fun _=>rfl⟩
theorem OnR.trans {W:List Wd} {a b c:Rs} (h:OnR W a b) (k:OnR W b c):OnR W a c :=
 ⟨fun x=>k.suf (h.suf x),Nat.le_trans k.len h.len,fun x=>by rw[k.bad (by rw[h.bad x];exact x),h.bad x]⟩
theorem OnR.bads {W:List Wd} {l:List Wd} {z b:Int} (h:z < 0):OnR W ⟨l,z⟩ ⟨l,b⟩:=⟨id,Nat.le_refl _,fun x=>absurd h x⟩
section
variable {W:List Wd} (hW:LastE W)
include hW
theorem suf_tail {τ:Rs} {b:Int} (h:SufR W τ) (hk:τ.hd.k≠101):SufR W ⟨τ.l.tail,b⟩:=by
 obtain⟨P,e,rfl,he⟩:=hW
 obtain⟨j,hj,hl⟩:=h
 refine⟨j+1,?_,by rw[hl,List.tail_drop]⟩
 apply Classical.byContradiction
 intro hn
 have hjp:j=P.length:=by simp at hj hn;omega
 subst hjp
 apply hk
 unfold Rs.hd
 rw[hl,List.drop_left]
 exact he
theorem nextR_on (τ:Rs) (k:UInt8) (t:Str):OnR W τ (nextR τ k t).2:=by
 unfold nextR
 by_cases h1:¬ τ.bad < 0
 ·rw[if_pos h1];exact OnR.refl _ _
 rw[if_neg h1]
 have h1:=Classical.not_not.1 h1
 by_cases h2:τ.hd.k≠k∨(t≠[]∧bs τ.hd.t≠t)
 ·rw[if_pos h2]
  exact⟨id,Nat.le_refl _,fun x=>absurd h1 x⟩
 rw[if_neg h2]
 by_cases h3:τ.hd.k≠101
 ·show OnR W τ (if τ.hd.k≠101 then ⟨τ.l.tail,τ.bad⟩ else τ)
  rw[if_pos h3]
  exact⟨fun h=>suf_tail hW h h3,by simp,fun x=>absurd h1 x⟩
 ·show OnR W τ (if τ.hd.k≠101 then ⟨τ.l.tail,τ.bad⟩ else τ)
  rw[if_neg h3]
  exact OnR.refl _ _
theorem loopR_on {f:Rs->Cd × Rs} (hf:∀ τ,OnR W τ (f τ).2) (word:Str):∀ m b τ l,OnR W τ (loopR f word m b τ l).2
 | 0,_,τ,_=>OnR.refl W τ
 | m+1,b,τ,l=>by
   rw[loopR]
   split
   ·exact OnR.refl W τ
   ·split
    ·exact nextR_on hW τ _ _
    ·exact ((nextR_on hW τ _ _).trans (hf _)).trans (loopR_on hf word m _ _ _)
theorem headR_on {f:Rs->Cd × Rs} (hf:∀ τ,OnR W τ (f τ).2) (kind:Int) (τ:Rs):OnR W τ (headR f kind τ).2:=by
 unfold headR
 split
 ·exact nextR_on hW τ _ _
 ·exact (hf τ).trans (nextR_on hW _ _ _)
theorem tailR_on {f:Rs->Cd × Rs} (hf:∀ τ,OnR W τ (f τ).2) (c:Cd) (τ:Rs):OnR W τ (tailR f c τ).2:=by
 unfold tailR
 split
 ·exact loopR_on hW hf _ _ _ _ _
 ·exact loopR_on hW hf _ _ _ _ _
theorem groupR_on {f:Rs->Cd × Rs} (hf:∀ τ,OnR W τ (f τ).2) (τ:Rs):OnR W τ (groupR f τ).2:=by
 unfold groupR
 have h1:=nextR_on hW τ 40 []
 split
 ·exact (h1.trans (nextR_on hW _ _ _)).trans (headR_on hW hf _ _)
 ·split
  ·exact (h1.trans (nextR_on hW _ _ _)).trans (headR_on hW hf _ _)
  ·exact (h1.trans (hf _)).trans (tailR_on hW hf _ _)
theorem pairR_on (τ:Rs) (kind:Int) (mid:UInt8) (t:Str):OnR W τ (pairR τ kind mid t).2:=((nextR_on hW τ _ _).trans (nextR_on hW _ _ _)).trans (nextR_on hW _ _ _)
theorem restR_on {f:Option (Rs->Cd × Rs)} (hf:∀ g,f=some g->∀ τ,OnR W τ (g τ).2) (τ:Rs):OnR W τ (condR.restR f τ).2:=by
 unfold condR.restR
 split
 ·exact nextR_on hW τ _ _
 split
 ·exact (nextR_on hW τ _ _).trans (pairR_on hW _ _ _ _)
 split
 ·exact (nextR_on hW τ _ _).trans (pairR_on hW _ _ _ _)
 split
 ·exact (nextR_on hW τ _ _).trans (nextR_on hW _ _ _)
 split
 ·exact (nextR_on hW τ _ _).trans (pairR_on hW _ _ _ _)
 split
 ·cases f with
  | none=>exact OnR.refl W τ
  | some g=>exact (nextR_on hW τ _ _).trans (hf g rfl _)
 ·by_cases hb:τ.bad < 0
  ·show OnR W τ (if τ.bad < 0 then ⟨τ.l,τ.hd.a⟩ else τ)
   rw[if_pos hb]
   exact⟨id,Nat.le_refl _,fun x=>absurd hb x⟩
  ·show OnR W τ (if τ.bad < 0 then ⟨τ.l,τ.hd.a⟩ else τ)
   rw[if_neg hb];exact OnR.refl W τ
omit hW in
theorem isR_bad {τ:Rs} {k:UInt8} {t:Str} (h:isR τ k t=true):τ.bad < 0:=by
 unfold isR at h
 simp only[Bool.and_eq_true,decide_eq_true_eq] at h
 exact h.1.1
theorem condR_on {f:Option (Rs->Cd × Rs)} (hf:∀ g,f=some g->∀ τ,OnR W τ (g τ).2) (τ:Rs):OnR W τ (condR f τ).2:=by
 unfold condR
 cases f with
 | none =>
   dsimp only
   split
   ·rename_i h
    have hb:τ.bad < 0:=h.elim isR_bad isR_bad
    exact⟨id,Nat.le_refl _,fun x=>absurd hb x⟩
   ·exact restR_on hW hf τ
 | some g =>
   dsimp only
   split
   ·exact groupR_on hW (hf g rfl) τ
   ·exact restR_on hW hf τ
theorem condRF_on:∀ n (τ:Rs),OnR W τ (condRF n τ).2
 | 0,τ=>condR_on hW (fun _ h=>by cases h) τ
 | n+1,τ=>condR_on hW (fun g h=>by cases h;exact condRF_on n) τ
end
theorem isR_no {τ:Rs} (h:¬ τ.bad < 0) (k:UInt8) (t:Str):isR τ k t=false:=by
 cases hi:isR τ k t
 ·rfl
 ·exact absurd (isR_bad hi) h
theorem nextR_bad {τ:Rs} (h:¬ τ.bad < 0) (k:UInt8) (t:Str):nextR τ k t=(zeroW,τ):=by unfold nextR;rw[if_pos h]
theorem condR_bad {τ:Rs} (h:¬ τ.bad < 0) (f:Option (Rs->Cd × Rs)):condR f τ=(zeroC,τ):=by
 have hr:∀ f,condR.restR f τ=(zeroC,τ):=fun f=>by
  unfold condR.restR
  simp only[isR_no h,Bool.false_eq_true,if_false,if_neg h]
 unfold condR
 cases f with
 | none=>simp only[isR_no h,Bool.false_eq_true,or_self,if_false,hr]
 | some g=>simp only[isR_no h,Bool.false_eq_true,if_false,hr]
theorem condRF_bad {τ:Rs} (h:¬ τ.bad < 0) (n:Nat):condRF n τ=(zeroC,τ):=by
 cases n<;>exact condR_bad h _
theorem leftR_lt {n:Nat} {τ:Rs} {word:Str} (hb:τ.bad < 0):leftR (condRF n (nextR τ 119 word).2).2 < leftR τ:=by
 unfold leftR
 rw[if_pos hb]
 split
 ·rename_i h2
  have hl:∀ υ:Rs,(condRF n υ).2.l.length<=υ.l.length:=fun υ=>(condRF_on (W:=[⟨⟨#[]⟩,101,0,⟨#[]⟩⟩]) ⟨[],_,rfl,rfl⟩ n υ).len
  have h3:=hl (nextR τ 119 word).2
  have h4:(nextR τ 119 word).2.bad < 0:=by
   apply Classical.byContradiction
   intro hn
   rw[condRF_bad hn] at h2
   exact hn h2
  have hm:¬ (τ.hd.k≠119∨(word≠[]∧bs τ.hd.t≠word)):=by
   intro hm
   unfold nextR at h4
   rw[if_neg (fun h=>h hb),if_pos hm] at h4
   exact absurd h4 (by show ¬ (τ.hd.a:Int) < 0;omega)
  have hk:τ.hd.k=119:=Classical.byContradiction fun e=>hm (.inl e)
  have hne:τ.l≠[]:=by
   intro e
   unfold Rs.hd at hk
   rw[e] at hk
   exact absurd hk (by decide)
  have hnx:(nextR τ 119 word).2=⟨τ.l.tail,τ.bad⟩:=by
   unfold nextR
   rw[if_neg (fun h=>h hb),if_neg hm]
   exact if_pos (by rw[hk];decide)
  rw[hnx] at h3 ⊢
  have h5:(⟨τ.l.tail,τ.bad⟩:Rs).l.length=τ.l.length - 1:=by simp
  have:=List.length_pos_iff.2 hne
  omega
 ·omega
theorem loopR_succ (f:Rs->Cd × Rs) (word:Str) (m:Nat) (more:Bool) (τ:Rs) (l:List Cd):loopR f word (m+1) more τ l=if ¬ τ.bad < 0 then (l,τ)
 else if more=true∧isR τ 41 []=true then (l,(nextR τ 41 []).2)
 else loopR f word m true (f (nextR τ 119 word).2).2 (l++[(f (nextR τ 119 word).2).1]):=rfl
theorem loopR_more {n:Nat} {word:Str}:∀ m b τ l,leftR τ<=m->loopR (condRF n) word m b τ l=loopR (condRF n) word (leftR τ) b τ l
 | 0,_,τ,_,h=>by rw[show leftR τ=0 by omega]
 | m+1,b,τ,l,h=>by
   by_cases hb:τ.bad < 0
   ·have h1:=leftR_lt (n:=n) (word:=word) hb
    obtain⟨k,hk⟩:∃ k,leftR τ=k+1:=⟨leftR τ - 1,by omega⟩
    have hn:¬ ¬ τ.bad < 0:=fun h=>h hb
    rw[hk,loopR_succ,loopR_succ _ _ k,if_neg hn,if_neg hn]
    split
    ·rfl
    ·rw[loopR_more m true _ _ (by omega)]
     by_cases hkm:k=m
     ·subst hkm;rw[loopR_more k true _ _ (by omega)]
     ·rw[loopR_more k true _ _ (by omega)]
   ·have hz:leftR τ=0:=by unfold leftR;rw[if_neg hb]
    rw[hz,loopR,loopR,if_pos hb]
theorem loopR_bad {n:Nat} {word:Str} {τ:Rs} {b:Bool} {l:List Cd} (hb:¬ τ.bad < 0):loopR (condRF n) word (leftR τ) b τ l=(l,τ):=by
 have hz:leftR τ=0:=by unfold leftR;rw[if_neg hb]
 rw[hz,loopR]
theorem loopR_stop {n:Nat} {word:Str} {τ:Rs} {l:List Cd} (hb:τ.bad < 0) (hi:isR τ 41 []=true):loopR (condRF n) word (leftR τ) true τ l=(l,(nextR τ 41 []).2):=by
 obtain⟨k,hk⟩:∃ k,leftR τ=k+1:=⟨τ.l.length,by unfold leftR;rw[if_pos hb]⟩
 rw[hk,loopR,if_neg (fun h=>h hb),if_pos ⟨rfl,hi⟩]
theorem loopR_step {n:Nat} {word:Str} {τ:Rs} {b:Bool} {l:List Cd} (hb:τ.bad < 0) (hi:b=false∨isR τ 41 []=false) :
 loopR (condRF n) word (leftR τ) b τ l=loopR (condRF n) word (leftR (condRF n (nextR τ 119 word).2).2) true (condRF n (nextR τ 119 word).2).2 (l++[(condRF n (nextR τ 119 word).2).1]):=by
 have h1:=leftR_lt (n:=n) (word:=word) hb
 obtain⟨k,hk⟩:∃ k,leftR τ=k+1:=⟨leftR τ - 1,by omega⟩
 rw[hk,loopR,if_neg (fun h=>h hb),if_neg (by rintro ⟨rfl,h⟩;rcases hi with hi|hi;exact absurd hi (by decide);rw[hi] at h;exact absurd h (by decide)),loopR_more k true _ _ (by omega)]
end
section
def Sim (s:ByteArray) (σ:St) (τ:Rs):Prop :=
 (σ.wr < 0∧τ.bad < 0∧∃ i,i<=s.size∧(σ.k=(advF s (at0 i)).k∧σ.a=(advF s (at0 i)).a∧σ.t=(advF s (at0 i)).t∧σ.p=(advF s (at0 i)).p)∧τ.l=wordsT s i)∨(¬ σ.wr < 0∧τ.bad=σ.wr)
def SimC (s:ByteArray) (r:Cd × St) (q:Cd × Rs):Prop:=Sim s r.2 q.2∧(r.2.wr < 0->r.1=q.1)
def Fit (k:Int) (t:Str) (kind:UInt8) (t':Str):Prop:=(k=1∧kind=119∧t=t')∨(k=2∧kind=113∧t=[]∧t'=[])∨(k=3∧t=[kind]∧t'=[]∧signB kind=true)
theorem fit_word (t:Str):Fit 1 t 119 t:=.inl ⟨rfl,rfl,rfl⟩
theorem fit_text:Fit 2 [] 113 []:=.inr (.inl ⟨rfl,rfl,rfl,rfl⟩)
theorem fit_sign {c:UInt8} (h:signB c=true):Fit 3 [c] c []:=.inr (.inr ⟨rfl,rfl,rfl,h⟩)
section
variable {s:ByteArray}
theorem tok_word {i:Nat} (hi:i<=s.size):∃ (d:Wd) (r:List Wd),wordsT s i=d::r∧d.a=(advF s (at0 i)).a ∧
 (∀ k t kind t',Fit k t kind t'->(((advF s (at0 i)).k=k∧(t≠[]->bs (advF s (at0 i)).t=t))↔(d.k=kind∧(t'≠[]->bs d.t=t')))) ∧
 (d.k=119->d.t=(advF s (at0 i)).t)∧(d.k=113->d.v=(advF s (at0 i)).t) ∧
 ((advF s (at0 i)).k≠0->(advF s (at0 i)).k≠4->d.k≠101∧r=wordsT s (advF s (at0 i)).p∧(advF s (at0 i)).p<=s.size):=by
 have hE:i+runN blankB ((bs s).drop i)<=s.size:=run_le blankB s hi
 have hst:∀ h:i+runN blankB ((bs s).drop i) < s.size,blankB s[i+runN blankB ((bs s).drop i)]=false:=fun h=>run_stop blankB s _ _ rfl h
 have hadv:advF s (at0 i)=tokF s (at0 i) (i+runN blankB ((bs s).drop i)):=rfl
 have hw:wordsT s i=wordsT s (i+runN blankB ((bs s).drop i)):=by
  have:∀ m i,runN blankB ((bs s).drop i)=m->wordsT s i=wordsT s (i+m):=by
   intro m
   induction m with
   | zero=>intro i _;rfl
   | succ m ih =>
     intro i hm
     by_cases hlt:i < s.size
     ·cases hb:blankB s[i]
      ·have:=runN_no blankB s hlt hb;omega
      ·have h1:=runN_yes blankB s hlt hb
       rw[words_blank hlt hb,ih (i+1) (by omega)]
       congr 1;omega
     ·have:=runN_out blankB s (Nat.le_of_not_lt hlt);omega
  exact this _ i rfl
 rw[hw,hadv]
 generalize i+runN blankB ((bs s).drop i)=j at *
 by_cases hj:j < s.size
 ·have hb:=hst hj
  by_cases hs:signB s[j]=true
  ·have e:tokF s (at0 i) j=⟨j+1,3,j,⟨#[s[j]]⟩,-1⟩:=by rw[tokF,dif_pos hj,if_pos hs]
   rw[words_sign hj hb hs,e]
   have hne:s[j]≠119∧s[j]≠113∧s[j]≠101:=by
    refine⟨?_,?_,?_⟩<;>(intro e;rw[e] at hs;exact absurd hs (by first|decide|(dsimp only[badW,endW];decide)|simp[badW,endW,signB]))
   refine⟨_,_,rfl,rfl,?_,fun h=>absurd h hne.1,fun h=>absurd h hne.2.1,fun _ _=>⟨hne.2.2,rfl,hj⟩⟩
   rintro k t kind t' (⟨rfl,rfl,rfl⟩|⟨rfl,rfl,rfl,rfl⟩|⟨rfl,rfl,rfl,hk⟩)
   ·constructor
    ·rintro ⟨h,_⟩;exact absurd h (by first|decide|(dsimp only[badW,endW];decide)|simp[badW,endW,signB])
    ·rintro ⟨h,_⟩;exact absurd h hne.1
   ·constructor
    ·rintro ⟨h,_⟩;exact absurd h (by first|decide|(dsimp only[badW,endW];decide)|simp[badW,endW,signB])
    ·rintro ⟨h,_⟩;exact absurd h hne.2.1
   ·constructor
    ·rintro ⟨_,h⟩
     have h2:[s[j]]=[kind]:=h (by simp)
     exact⟨(List.cons.inj h2).1,fun h=>absurd rfl h⟩
    ·rintro ⟨h,_⟩
     exact⟨rfl,fun _=>by rw[<-h]⟩
  ·by_cases hq:s[j]=34
   ·by_cases ho:(qat (bs s) j).2.2=true
    ·have e:tokF s (at0 i) j=⟨(qat (bs s) j).2.1,2,j,⟨(qat (bs s) j).1.toArray⟩,-1⟩:=by rw[tokF,dif_pos hj,if_neg hs,if_pos hq,if_pos ho]
     rw[words_quote hj hb hs hq ho,e]
     refine⟨_,_,rfl,rfl,?_,fun h=>absurd h (by first|decide|(dsimp only[badW,endW];decide)|simp[badW,endW,signB]),fun _=>rfl,fun _ _=>⟨by first|decide|(dsimp only;decide)|simp,rfl,(qat_le s j).1⟩⟩
     rintro k t kind t' (⟨rfl,rfl,rfl⟩|⟨rfl,rfl,rfl,rfl⟩|⟨rfl,rfl,rfl,hk⟩)
     ·constructor
      ·rintro ⟨h,_⟩;exact absurd h (by first|decide|(dsimp only[badW,endW];decide)|simp[badW,endW,signB])
      ·rintro ⟨h,_⟩;exact absurd h (by first|decide|(dsimp only[badW,endW];decide)|simp[badW,endW,signB])
     ·exact⟨fun _=>⟨rfl,fun h=>absurd rfl h⟩,fun _=>⟨rfl,fun h=>absurd rfl h⟩⟩
     ·constructor
      ·rintro ⟨h,_⟩;exact absurd h (by first|decide|(dsimp only[badW,endW];decide)|simp[badW,endW,signB])
      ·rintro ⟨h,_⟩;rw[<-h] at hk;exact absurd hk (by first|decide|(dsimp only[badW,endW];decide)|simp[badW,endW,signB])
    ·have e:tokF s (at0 i) j=⟨j,4,j,⟨#[]⟩,-1⟩:=by rw[tokF,dif_pos hj,if_neg hs,if_pos hq,if_neg ho]
     rw[words_broken hj hb hs hq ho,e]
     refine⟨_,_,rfl,rfl,?_,fun h=>absurd h (by first|decide|(dsimp only[badW,endW];decide)|simp[badW,endW,signB]),fun h=>absurd h (by first|decide|(dsimp only[badW,endW];decide)|simp[badW,endW,signB]),fun _ h=>absurd rfl h⟩
     rintro k t kind t' (⟨rfl,rfl,rfl⟩|⟨rfl,rfl,rfl,rfl⟩|⟨rfl,rfl,rfl,hk⟩)
     ·constructor
      ·rintro ⟨h,_⟩;exact absurd h (by first|decide|(dsimp only[badW,endW];decide)|simp[badW,endW,signB])
      ·rintro ⟨h,_⟩;exact absurd h (by first|decide|(dsimp only[badW,endW];decide)|simp[badW,endW,signB])
     ·constructor
      ·rintro ⟨h,_⟩;exact absurd h (by first|decide|(dsimp only[badW,endW];decide)|simp[badW,endW,signB])
      ·rintro ⟨h,_⟩;exact absurd h (by first|decide|(dsimp only[badW,endW];decide)|simp[badW,endW,signB])
     ·constructor
      ·rintro ⟨h,_⟩;exact absurd h (by first|decide|(dsimp only[badW,endW];decide)|simp[badW,endW,signB])
      ·rintro ⟨h,_⟩;rw[<-h] at hk;exact absurd hk (by first|decide|(dsimp only[badW,endW];decide)|simp[badW,endW,signB])
   ·have e:tokF s (at0 i) j=⟨j+runN tokB ((bs s).drop j),1,j,s.extract j (j+runN tokB ((bs s).drop j)),-1⟩:=by rw[tokF,dif_pos hj,if_neg hs,if_neg hq]
    rw[words_word hj hb hs hq,e]
    refine⟨_,_,rfl,rfl,?_,fun _=>rfl,fun h=>absurd h (by first|decide|(dsimp only[badW,endW];decide)|simp[badW,endW,signB]),fun _ _=>⟨by first|decide|(dsimp only;decide)|simp,rfl,run_le tokB s (Nat.le_of_lt hj)⟩⟩
    rintro k t kind t' (⟨rfl,rfl,rfl⟩|⟨rfl,rfl,rfl,rfl⟩|⟨rfl,rfl,rfl,hk⟩)
    ·exact⟨fun h=>⟨rfl,h.2⟩,fun h=>⟨rfl,h.2⟩⟩
    ·constructor
     ·rintro ⟨h,_⟩;exact absurd h (by first|decide|(dsimp only[badW,endW];decide)|simp[badW,endW,signB])
     ·rintro ⟨h,_⟩;exact absurd h (by first|decide|(dsimp only[badW,endW];decide)|simp[badW,endW,signB])
    ·constructor
     ·rintro ⟨h,_⟩;exact absurd h (by first|decide|(dsimp only[badW,endW];decide)|simp[badW,endW,signB])
     ·rintro ⟨h,_⟩;rw[<-h] at hk;exact absurd hk (by first|decide|(dsimp only[badW,endW];decide)|simp[badW,endW,signB])
 ·have e:tokF s (at0 i) j=⟨j,0,j,⟨#[]⟩,-1⟩:=by rw[tokF,dif_neg hj]
  rw[words_end (Nat.le_of_not_lt hj),e]
  refine⟨_,_,rfl,by show s.size=j;omega,?_,fun h=>absurd h (by first|decide|(dsimp only[badW,endW];decide)|simp[badW,endW,signB]),fun h=>absurd h (by first|decide|(dsimp only[badW,endW];decide)|simp[badW,endW,signB]),fun h _=>absurd rfl h⟩
  rintro k t kind t' (⟨rfl,rfl,rfl⟩|⟨rfl,rfl,rfl,rfl⟩|⟨rfl,rfl,rfl,hk⟩)
  ·constructor
   ·rintro ⟨h,_⟩;exact absurd h (by first|decide|(dsimp only[badW,endW];decide)|simp[badW,endW,signB])
   ·rintro ⟨h,_⟩;exact absurd h (by first|decide|(dsimp only[badW,endW];decide)|simp[badW,endW,signB])
  ·constructor
   ·rintro ⟨h,_⟩;exact absurd h (by first|decide|(dsimp only[badW,endW];decide)|simp[badW,endW,signB])
   ·rintro ⟨h,_⟩;exact absurd h (by first|decide|(dsimp only[badW,endW];decide)|simp[badW,endW,signB])
  ·constructor
   ·rintro ⟨h,_⟩;exact absurd h (by first|decide|(dsimp only[badW,endW];decide)|simp[badW,endW,signB])
   ·rintro ⟨h,_⟩;rw[<-h] at hk;exact absurd hk (by first|decide|(dsimp only[badW,endW];decide)|simp[badW,endW,signB])
theorem Sim.neg {σ:St} {τ:Rs} (h:Sim s σ τ):σ.wr < 0↔τ.bad < 0:=by
 rcases h with ⟨h1,h2,_⟩|⟨h1,h2⟩
 ·exact⟨fun _=>h2,fun _=>h1⟩
 ·rw[h2]
theorem Sim.err {σ:St} {τ:Rs} (h:¬ σ.wr < 0) (e:τ.bad=σ.wr):Sim s σ τ:=.inr ⟨h,e⟩
theorem is_sim {σ:St} {τ:Rs} (h:Sim s σ τ) {k:Int} {t:Str} {kind:UInt8} {t':Str} (hf:Fit k t kind t') (ht:t≠[]):isF σ k t=isR τ kind t':=by
 rcases h with ⟨h1,h2,i,hi,⟨ek,ea,et,ep⟩,hl⟩|⟨h1,h2⟩
 ·obtain⟨d,r,hw,_,hm,_⟩:=tok_word hi
  have hm:=hm k t kind t' hf
  rw[<-ek,<-et] at hm
  have hhd:τ.hd=d:=by unfold Rs.hd;rw[hl,hw];rfl
  unfold isF isR
  rw[hhd,decide_eq_true h1,decide_eq_true h2]
  rw[Bool.eq_iff_iff]
  simp only[Bool.true_and,Bool.and_eq_true,Bool.or_eq_true,decide_eq_true_eq]
  constructor
  ·rintro ⟨a,b⟩
   obtain⟨c,e⟩:=hm.1 ⟨a,fun _=>b⟩
   refine⟨c,?_⟩
   by_cases hz:t'=[]
   ·exact .inl hz
   ·exact .inr (e hz)
  ·rintro ⟨a,b⟩
   obtain⟨c,e⟩:=hm.2 ⟨a,fun hz=>b.elim (fun x=>absurd x hz) id⟩
   exact⟨c,e ht⟩
 ·rw[isR_no (by rw[h2];exact h1)]
  unfold isF
  rw[decide_eq_false h1]
  rfl
theorem take_sim {σ:St} {τ:Rs} (h:Sim s σ τ) {k:Int} {t:Str} {kind:UInt8} {t':Str} (hf:Fit k t kind t') :
 Sim s (takeF s σ k t).2 (nextR τ kind t').2∧((takeF s σ k t).2.wr < 0->(k=1->(takeF s σ k t).1=(nextR τ kind t').1.t)∧(k=2->(takeF s σ k t).1=(nextR τ kind t').1.v)):=by
 rcases h with ⟨h1,h2,i,hi,⟨ek,ea,et,ep⟩,hl⟩|⟨h1,h2⟩
 ·obtain⟨d,r,hw,hda,hm,hd1,hd2,hrest⟩:=tok_word hi
  have hm:=hm k t kind t' hf
  rw[<-ek,<-et] at hm
  rw[<-ek,<-ep] at hrest
  rw[<-et] at hd1 hd2
  have hhd:τ.hd=d:=by unfold Rs.hd;rw[hl,hw];rfl
  unfold takeF nextR
  have n1:¬ ¬ σ.wr < 0:=fun h=>h h1
  have n2:¬ ¬ τ.bad < 0:=fun h=>h h2
  rw[if_neg n1,if_neg n2,hhd]
  clear n1 n2
  by_cases hc:σ.k=k∧(t≠[]->bs σ.t=t)
  ·have hc':=hm.1 hc
   rw[if_neg (by rintro (x|x);exact x hc.1;exact x.2 (hc.2 x.1)),if_neg (by rintro (x|x);exact x hc'.1;exact x.2 (hc'.2 x.1))]
   have hk04:σ.k≠0∧σ.k≠4:=by
    rw[hc.1]
    rcases hf with ⟨e,_⟩|⟨e,_⟩|⟨e,_⟩<;>(rw[e];decide)
   obtain⟨g1,g2,g3⟩:=hrest hk04.1 hk04.2
   have g4:(if d.k≠101 then (⟨τ.l.tail,τ.bad⟩:Rs) else τ)=⟨r,τ.bad⟩:=by rw[if_pos g1,hl,hw];rfl
   dsimp only
   rw[g4]
   refine⟨.inl ⟨by rw[show (advF s σ).wr=σ.wr from tokF_wr s σ _];exact h1,h2,σ.p,g3,?_,g2⟩,fun _=>⟨fun e=>?_,fun e=>?_⟩⟩
   ·exact tokF_same s σ (at0 σ.p) _
   ·subst e
    rcases hf with ⟨_,e,_⟩|⟨e,_⟩|⟨e,_⟩
    ·exact (hd1 (hc'.1.trans e)).symm
    ·exact absurd e (by decide)
    ·exact absurd e (by decide)
   ·subst e
    rcases hf with ⟨e,_⟩|⟨_,e,_⟩|⟨e,_⟩
    ·exact absurd e (by decide)
    ·exact (hd2 (hc'.1.trans e)).symm
    ·exact absurd e (by decide)
  ·have hc':=fun x=>hc (hm.2 x)
   have n1:σ.k≠k∨(t≠[]∧bs σ.t≠t):=by
    by_cases e:σ.k=k
    ·refine .inr (Classical.byContradiction fun x=>hc ⟨e,fun y=>Classical.byContradiction fun z=>x ⟨y,z⟩⟩)
    ·exact .inl e
   have n2:d.k≠kind∨(t'≠[]∧bs d.t≠t'):=by
    by_cases e:d.k=kind
    ·refine .inr (Classical.byContradiction fun x=>hc' ⟨e,fun y=>Classical.byContradiction fun z=>x ⟨y,z⟩⟩)
    ·exact .inl e
   rw[if_pos n1,if_pos n2]
   have hneg:¬ (σ.a:Int) < 0:=by omega
   exact⟨.inr ⟨hneg,by show (d.a:Int)=σ.a;rw[hda,ea]⟩,fun h=>absurd h hneg⟩
 ·have hb:¬ τ.bad < 0:=by rw[h2];exact h1
  unfold takeF nextR
  rw[if_pos h1,if_pos hb]
  exact⟨.inr ⟨h1,h2⟩,fun h=>absurd h h1⟩
theorem adv_sim {σ:St} {τ:Rs} (h:Sim s σ τ) {w:Str} (hi:isF σ 1 w=true):Sim s (advF s σ) (nextR τ 119 w).2:=by
 have h1:=(take_sim h (fit_word w)).1
 unfold isF at hi
 simp only[Bool.and_eq_true,decide_eq_true_eq] at hi
 unfold takeF at h1
 rw[if_neg (show ¬ ¬ σ.wr < 0 from fun x=>x hi.1.1),if_neg (by rintro (x|x);exact x hi.1.2;exact x.2 hi.2)] at h1
 exact h1
theorem hd_place {σ:St} {τ:Rs} (h:Sim s σ τ) (hw:σ.wr < 0):τ.hd.a=σ.a:=by
 rcases h with ⟨_,_,i,hi,⟨_,ea,_,_⟩,hl⟩|⟨h1,_⟩
 ·obtain⟨d,r,hwd,hda,_⟩:=tok_word hi
  unfold Rs.hd
  rw[hl,hwd,ea,<-hda]
  rfl
 ·exact absurd hw h1
theorem fail_sim {σ υ:St} {τ:Rs} (h:Sim s σ τ) (hw:σ.wr < 0) (hu:υ.wr < 0) (l:List Wd):Sim s (failF υ σ.a) ⟨l,τ.hd.a⟩:=by
 unfold failF
 rw[if_pos hu]
 exact .inr ⟨by show ¬ (σ.a:Int) < 0;omega,by show (τ.hd.a:Int)=σ.a;rw[hd_place h hw]⟩
theorem on_neg {σ υ:St} (h:On s σ υ) (hu:υ.wr < 0):σ.wr < 0:=Classical.byContradiction fun hn=>by rw[h.wr hn] at hu;exact hn hu
theorem pair_sim {σ:St} {τ:Rs} (h:Sim s σ τ) (kind:Int) {mid:Int} {midT:Str} {midK:UInt8} {midR:Str} (hf:Fit mid midT midK midR):SimC s (pairF s σ kind mid midT) (pairR τ kind midK midR):=by
 obtain⟨h1,t1⟩:=take_sim h (fit_word [])
 obtain⟨h2,_⟩:=take_sim h1 hf
 obtain⟨h3,t3⟩:=take_sim h2 fit_text
 refine⟨h3,fun hw=>?_⟩
 have w3:(takeF s (takeF s (takeF s σ 1 []).2 mid midT).2 2 []).2.wr < 0:=hw
 have w2:=on_neg (takeF_on s _ 2 []) w3
 have w1:=on_neg (takeF_on s _ mid midT) w2
 show Cd.mk kind _ _ []=Cd.mk kind _ _ []
 rw[(t1 w1).1 rfl,(t3 w3).2 rfl]
end
end
section
section
variable {s:ByteArray}
theorem simC_bad {σ:St} {τ:Rs} (h:Sim s σ τ) (hw:¬ σ.wr < 0) {r:Cd × St} {q:Cd × Rs} (hr:On s σ r.2) (hq:q.2=τ):SimC s r q:=by
 have e:=hr.wr hw
 refine⟨.inr ⟨by rw[e];exact hw,?_⟩,fun x=>absurd x (by rw[e];exact hw)⟩
 rcases h with ⟨h1,_⟩|⟨_,h2⟩
 ·exact absurd h1 hw
 ·rw[hq,e];exact h2
theorem Sim.ok {σ:St} {τ:Rs} (h:Sim s σ τ) (hw:σ.wr < 0):OkS s σ:=by
 rcases h with ⟨_,_,i,hi,⟨ek,ea,et,ep⟩,_⟩|⟨h1,_⟩
 ·have:=advF_ok (s:=s) (σ:=at0 i) ⟨hi,Nat.zero_le _,Nat.zero_le _⟩
  exact⟨by rw[ep];exact this.p,by rw[ea];exact this.a,by rw[et];exact this.t⟩
 ·exact absurd hw h1
theorem isF_no {σ:St} (h:¬ σ.wr < 0) (k:Int) (t:Str):isF σ k t=false:=by
 cases hi:isF σ k t
 ·rfl
 ·exact absurd (isF_wr hi) h
theorem head_sim {n:Nat} (ih:∀ σ τ,Sim s σ τ->SimC s (condF s n σ) (condRF n τ)) {σ:St} {τ:Rs} (h:Sim s σ τ) (word:ByteArray) (kind:Int) (hk:kindOfL (bs word)=kind):SimC s (headF s (condF s n) word σ) (headR (condRF n) kind τ):=by
 unfold headF headR
 rw[<-is_sim h (fit_sign (c:=41) rfl) (by simp)]
 split
 ·obtain⟨h1,_⟩:=take_sim h (fit_sign (c:=41) rfl)
  exact⟨h1,fun _=>by rw[hk]⟩
 ·obtain⟨h1,e1⟩:=ih σ τ h
  obtain⟨h2,_⟩:=take_sim h1 (fit_sign (c:=41) rfl)
  refine⟨h2,fun hw=>?_⟩
  have w1:=on_neg (takeF_on s _ 3 [41]) hw
  rw[hk,e1 w1]
theorem loop_sim {n:Nat} (ih:∀ σ τ,Sim s σ τ->SimC s (condF s n σ) (condRF n τ)) (word:Str) (hne:word≠[]):∀ (N:Nat) (σ:St) (τ:Rs) (l l':List Cd),left s σ<=N->Sim s σ τ->(σ.wr < 0->l=l') ->
 Sim s (takeF s (loopF s (condF s n) word (left s σ) σ l).2 3 [41]).2 (loopR (condRF n) word (leftR τ) true τ l').2 ∧
 ((takeF s (loopF s (condF s n) word (left s σ) σ l).2 3 [41]).2.wr < 0->(loopF s (condF s n) word (left s σ) σ l).1=(loopR (condRF n) word (leftR τ) true τ l').1):=by
 intro N
 induction N with
 | zero =>
   intro σ τ l l' hN h hl
   have hw:¬ σ.wr < 0:=fun hw=>by
    unfold left at hN
    rw[if_pos hw] at hN
    have:=(h.ok hw).p
    omega
   rw[loopF_stop (isF_no hw _ _),loopR_bad (by rw[<-h.neg];exact hw)]
   have h1:=(takeF_on s σ 3 [41]).wr hw
   rcases h with ⟨x,_⟩|⟨_,h2⟩
   ·exact absurd x hw
   exact⟨.inr ⟨by rw[h1];exact hw,by rw[h1];exact h2⟩,fun x=>absurd x (by rw[h1];exact hw)⟩
 | succ N hN =>
   intro σ τ l l' hle h hl
   by_cases hw:σ.wr < 0
   rotate_left
   ·rw[loopF_stop (isF_no hw _ _),loopR_bad (by rw[<-h.neg];exact hw)]
    have h1:=(takeF_on s σ 3 [41]).wr hw
    rcases h with ⟨x,_⟩|⟨_,h2⟩
    ·exact absurd x hw
    exact⟨.inr ⟨by rw[h1];exact hw,by rw[h1];exact h2⟩,fun x=>absurd x (by rw[h1];exact hw)⟩
   have hb:=h.neg.1 hw
   have ho:=h.ok hw
   have e41:=is_sim h (fit_sign (c:=41) rfl) (by simp)
   have ew:=is_sim h (fit_word word) hne
   cases hi:isF σ 1 word
   ·rw[loopF_stop hi]
    cases h41:isR τ 41 []
    ·-- an error on both sides
     rw[loopR_step hb (.inr h41)]
     have hbad:¬ (nextR τ 119 word).2.bad < 0∧(nextR τ 119 word).2.bad=σ.a:=by
      rw[hi] at ew
      unfold isR at ew
      unfold nextR
      rw[if_neg (show ¬ ¬ τ.bad < 0 from fun x=>x hb)]
      have hc:τ.hd.k≠119∨(word≠[]∧bs τ.hd.t≠word):=by
       rw[decide_eq_true hb] at ew
       by_cases e:τ.hd.k=119
       ·refine .inr ⟨hne,fun e2=>?_⟩
        rw[decide_eq_true e,decide_eq_true e2] at ew
        simp at ew
       ·exact .inl e
      rw[if_pos hc]
      have:=hd_place h hw
      exact⟨by show ¬ (τ.hd.a:Int) < 0;omega,by show (τ.hd.a:Int)=σ.a;omega⟩
     rw[condRF_bad hbad.1,loopR_bad hbad.1]
     rw[h41] at e41
     have ht:takeF s σ 3 [41]=(⟨#[]⟩,{ σ with wr:=σ.a }):=by
      unfold takeF
      rw[if_neg (show ¬ ¬ σ.wr < 0 from fun x=>x hw)]
      unfold isF at e41
      rw[decide_eq_true hw] at e41
      have hc:σ.k≠3∨(([41]:Str)≠[]∧bs σ.t≠[41]):=by
       by_cases e:σ.k=3
       ·refine .inr ⟨by simp,fun e2=>?_⟩
        rw[decide_eq_true e,decide_eq_true e2] at e41
        simp at e41
       ·exact .inl e
      rw[if_pos hc]
     rw[ht]
     have hneg:¬ (σ.a:Int) < 0:=by omega
     exact⟨.inr ⟨hneg,hbad.2⟩,fun x=>absurd x hneg⟩
    ·rw[loopR_stop hb h41]
     obtain⟨h1,_⟩:=take_sim h (fit_sign (c:=41) rfl)
     exact⟨h1,fun _=>hl hw⟩
   ·-- one more part
    have h41:isR τ 41 []=false:=by
     rw[<-e41]
     unfold isF at hi ⊢
     simp only[Bool.and_eq_true,decide_eq_true_eq] at hi
     rw[hi.1.2]
     simp
    rw[loopF_step ho hi,loopR_step hb (.inr h41)]
    have ha:=adv_sim h hi
    obtain⟨h1,e1⟩:=ih _ _ ha
    have hlt:=left_lt (n:=n) ho hi
    exact hN _ _ _ _ (by omega) h1 (fun hw2=>by rw[hl hw,e1 hw2])
theorem tail_sim {n:Nat} (ih:∀ σ τ,Sim s σ τ->SimC s (condF s n σ) (condRF n τ)) {σ:St} {τ:Rs} {c c':Cd} (h:Sim s σ τ) (hc:σ.wr < 0->c=c'):SimC s (tailF s (condF s n) c σ) (tailR (condRF n) c' τ):=by
 by_cases hw:σ.wr < 0
 rotate_left
 ·have hb:¬ τ.bad < 0:=by rw[<-h.neg];exact hw
  refine simC_bad h hw (tailF_on (condF_on n) c σ) ?_
  unfold tailR
  rw[isR_no hb,if_neg (by decide),loopR_bad hb]
 have hb:=h.neg.1 hw
 have ho:=h.ok hw
 have eor:=is_sim h (fit_word wOr) (by simp)
 have eand:=is_sim h (fit_word wAnd) (by simp)
 -- both loops behind a word that is there
 have go:∀ word:Str,word≠[]->isF σ 1 word=true ->
  Sim s (takeF s (loopF s (condF s n) word (left s σ) σ [c]).2 3 [41]).2 (loopR (condRF n) word (leftR τ) false τ [c']).2 ∧
  ((takeF s (loopF s (condF s n) word (left s σ) σ [c]).2 3 [41]).2.wr < 0->(loopF s (condF s n) word (left s σ) σ [c]).1=(loopR (condRF n) word (leftR τ) false τ [c']).1):=by
  intro word hne hi
  rw[loopF_step ho hi,loopR_step hb (.inl rfl)]
  have ha:=adv_sim h hi
  obtain⟨h1,e1⟩:=ih _ _ ha
  exact loop_sim ih word hne _ _ _ _ _ (Nat.le_refl _) h1 (fun hw2=>by rw[hc hw,e1 hw2])
 unfold tailF tailR
 by_cases hor:isF σ 1 wOr=true
 ·have hx:=hor
  unfold isF at hx
  simp only[Bool.and_eq_true,decide_eq_true_eq] at hx
  have hfix:fixF σ=σ:=by unfold fixF;rw[if_neg (by rintro ⟨_,x|x⟩;exact x hx.1.2;exact x.2 hx.2)]
  rw[<-eor,if_pos hor,hfix,hx.2]
  obtain⟨h1,e1⟩:=go wOr (by simp) hor
  exact⟨h1,fun hw2=>by rw[e1 hw2];rfl⟩
 ·rw[<-eor,if_neg hor]
  by_cases hand:isF σ 1 wAnd=true
  ·have hx:=hand
   unfold isF at hx
   simp only[Bool.and_eq_true,decide_eq_true_eq] at hx
   have hfix:fixF σ=σ:=by unfold fixF;rw[if_neg (by rintro ⟨_,x|x⟩;exact x hx.1.2;exact x.1 hx.2)]
   rw[hfix,hx.2]
   obtain⟨h1,e1⟩:=go wAnd (by simp) hand
   exact⟨h1,fun hw2=>by rw[e1 hw2];rfl⟩
  ·have hfix:fixF σ={ σ with wr:=σ.a }:=by
    unfold fixF
    have hcond:σ.wr < 0∧(σ.k≠1∨(bs σ.t≠wAnd∧bs σ.t≠wOr)):=by
     refine⟨hw,?_⟩
     by_cases e:σ.k=1
     ·refine .inr ⟨fun x=>hand ?_,fun x=>hor ?_⟩
      ·unfold isF;rw[decide_eq_true hw,decide_eq_true e,decide_eq_true x];rfl
      ·unfold isF;rw[decide_eq_true hw,decide_eq_true e,decide_eq_true x];rfl
     ·exact .inl e
    rw[if_pos hcond]
    unfold failF
    rw[if_pos hw]
   have hneg:¬ (σ.a:Int) < 0:=by omega
   have hi2:∀ x,isF { σ with wr:=(σ.a:Int) } 1 x=false:=fun x=>by
    cases hq:isF { σ with wr:=(σ.a:Int) } 1 x
    ·rfl
    ·exact absurd (isF_wr hq) hneg
   rw[hfix,loopF_stop (hi2 _)]
   have hbad:¬ (nextR τ 119 wAnd).2.bad < 0∧(nextR τ 119 wAnd).2.bad=σ.a:=by
    have ew:=eand
    rw[(Bool.not_eq_true _).mp hand] at ew
    unfold isR at ew
    unfold nextR
    rw[if_neg (show ¬ ¬ τ.bad < 0 from fun x=>x hb)]
    have hc:τ.hd.k≠119∨(wAnd≠[]∧bs τ.hd.t≠wAnd):=by
     rw[decide_eq_true hb] at ew
     by_cases e:τ.hd.k=119
     ·refine .inr ⟨by simp,fun e2=>?_⟩
      rw[decide_eq_true e,decide_eq_true e2] at ew
      simp at ew
     ·exact .inl e
    rw[if_pos hc]
    have:=hd_place h hw
    exact⟨by show ¬ (τ.hd.a:Int) < 0;omega,by show (τ.hd.a:Int)=σ.a;omega⟩
   rw[loopR_step hb (.inl rfl),condRF_bad hbad.1,loopR_bad hbad.1]
   have h1:=(takeF_on s { σ with wr:=(σ.a:Int) } 3 [41]).wr hneg
   dsimp only
   exact⟨.inr ⟨by show ¬ (takeF s { σ with wr:=(σ.a:Int) } 3 [41]).2.wr < 0;rw[h1];exact hneg,by show _=(takeF s { σ with wr:=(σ.a:Int) } 3 [41]).2.wr;rw[h1];exact hbad.2⟩,fun x=>absurd x (by show ¬ (takeF s { σ with wr:=(σ.a:Int) } 3 [41]).2.wr < 0;rw[h1];exact hneg)⟩
theorem cond_bad_sim {σ:St} {τ:Rs} (h:Sim s σ τ) (hw:¬ σ.wr < 0) (f:Option (St->Cd × St)) (hf:∀ g,f=some g->∀ σ,On s σ (g σ).2) (q:Option (Rs->Cd × Rs)):SimC s (condB s f σ) (condR q τ):=by
 refine simC_bad h hw (condB_on hf σ) ?_
 rw[condR_bad (by rw[<-h.neg];exact hw)]
theorem rest_sim {σ:St} {τ:Rs} (h:Sim s σ τ) (hw:σ.wr < 0) (f:Option (St->Cd × St)) (q:Option (Rs->Cd × Rs))
 (hn:f=none->q=none) (hs:∀ g,f=some g->∃ r,q=some r∧∀ σ τ,Sim s σ τ->SimC s (g σ) (r τ)) (h119:q=none->isR τ 119 wNot=false) :
 SimC s (wordF s f σ.a (bs (takeF s σ 1 []).1) (takeF s σ 1 []).2) (condR.restR q τ):=by
 have hb:=h.neg.1 hw
 have hr:∀ w:Str,w≠[]->isR τ 119 w=decide (bs (takeF s σ 1 []).1=w):=by
  intro w hne
  rw[<-is_sim h (fit_word w) hne]
  unfold isF takeF
  rw[decide_eq_true hw,if_neg (show ¬ ¬ σ.wr < 0 from fun x=>x hw)]
  by_cases e:σ.k=1
  ·rw[if_neg (by rintro (x|x);exact x e;exact x.1 rfl),decide_eq_true e];rfl
  ·rw[if_pos (.inl e),decide_eq_false e]
   symm
   exact decide_eq_false (fun x=>hne x.symm)
 have hnx:∀ w:Str,w≠[]->bs (takeF s σ 1 []).1=w->Sim s (takeF s σ 1 []).2 (nextR τ 119 w).2:=by
  intro w hne e
  have hi:isF σ 1 w=true:=by rw[is_sim h (fit_word w) hne,hr w hne];exact decide_eq_true e
  have hx:=hi
  unfold isF at hx
  simp only[Bool.and_eq_true,decide_eq_true_eq] at hx
  have:=adv_sim h hi
  have ht:(takeF s σ 1 []).2=advF s σ:=by
   unfold takeF
   rw[if_neg (show ¬ ¬ σ.wr < 0 from fun x=>x hw),if_neg (by rintro (x|x);exact x hx.1.2;exact x.1 rfl)]
  rw[ht];exact this
 unfold wordF condR.restR
 rw[hr wAlways (by simp),hr wFact (by simp),hr wSetting (by simp),hr wHas (by simp),hr wVersion (by simp),hr wNot (by simp)]
 simp only[decide_eq_true_eq]
 split
 ·rename_i e
  exact⟨hnx _ (by simp) e,fun _=>rfl⟩
 split
 ·rename_i e
  exact pair_sim (hnx _ (by simp) e) 2 (fit_sign (c:=61) rfl)
 split
 ·rename_i e
  exact pair_sim (hnx _ (by simp) e) 3 (fit_sign (c:=61) rfl)
 split
 ·rename_i e
  obtain⟨h1,t1⟩:=take_sim (hnx _ (by simp) e) (fit_word [])
  refine⟨h1,fun hw2=>?_⟩
  show Cd.mk 4 _ _ []=Cd.mk 4 _ _ []
  rw[(t1 hw2).1 rfl]
 split
 ·rename_i e
  exact pair_sim (hnx _ (by simp) e) 5 (fit_word wIn)
 split
 ·rename_i e
  cases f with
  | none =>
    have hq:=hn rfl
    have:=h119 hq
    rw[hr wNot (by simp)] at this
    exact absurd e (of_decide_eq_false this)
  | some g =>
    obtain⟨r,rfl,hgr⟩:=hs g rfl
    obtain⟨h1,e1⟩:=hgr _ _ (hnx _ (by simp) e)
    refine⟨h1,fun hw2=>?_⟩
    show Cd.mk 6 _ _ [_]=Cd.mk 6 _ _ [_]
    rw[e1 hw2]
 ·-- no word that is known
  have key:Sim s (failF (takeF s σ 1 []).2 σ.a) ⟨τ.l,τ.hd.a⟩∧¬ (failF (takeF s σ 1 []).2 σ.a).wr < 0:=by
   have hneg:¬ (σ.a:Int) < 0:=by omega
   have hp:=hd_place h hw
   have:(failF (takeF s σ 1 []).2 σ.a).wr=σ.a:=by
    unfold failF
    split
    ·rfl
    ·rename_i hx
     unfold takeF at hx ⊢
     rw[if_neg (show ¬ ¬ σ.wr < 0 from fun x=>x hw)] at hx ⊢
     by_cases e:σ.k≠1∨(([]:Str)≠[]∧bs σ.t≠[])
     ·rw[if_pos e]
     ·rw[if_neg e] at hx
      exact absurd (show (advF s σ).wr < 0 by rw[show (advF s σ).wr=σ.wr from tokF_wr s σ _];exact hw) hx
   refine⟨.inr ⟨by rw[this];exact hneg,by rw[this];show (τ.hd.a:Int)=σ.a;omega⟩,by rw[this];exact hneg⟩
  exact⟨key.1,fun x=>absurd x key.2⟩
theorem cond_sim:∀ (n:Nat) (σ:St) (τ:Rs),Sim s σ τ->SimC s (condF s n σ) (condRF n τ)
 | 0,σ,τ,h=>by
   by_cases hw:σ.wr < 0
   rotate_left
   ·exact cond_bad_sim h hw none (fun _ e=>by cases e) none
   have hb:=h.neg.1 hw
   show SimC s (condB s none σ) (condR none τ)
   unfold condB condR
   rw[is_sim h (fit_sign (c:=40) rfl) (by simp)]
   dsimp only
   by_cases h40:isR τ 40 []=true
   ·rw[if_pos h40,if_pos (.inl h40)]
    unfold listB
    exact⟨fail_sim h hw hw τ.l,fun _=>rfl⟩
   ·rw[if_neg h40]
    by_cases hnot:isR τ 119 wNot=true
    ·rw[if_pos (.inr hnot)]
     have hi:isF σ 1 wNot=true:=by rw[is_sim h (fit_word wNot) (by simp)];exact hnot
     have hx:=hi
     unfold isF at hx
     simp only[Bool.and_eq_true,decide_eq_true_eq] at hx
     have ht:takeF s σ 1 []=(σ.t,advF s σ):=by
      unfold takeF
      rw[if_neg (show ¬ ¬ σ.wr < 0 from fun x=>x hw),if_neg (by rintro (x|x);exact x hx.1.2;exact x.1 rfl)]
     rw[ht]
     have hwf:wordF s none σ.a (bs (σ.t,advF s σ).1) (σ.t,advF s σ).2=(zeroC,failF (advF s σ) σ.a):=by
      show wordF s none σ.a (bs σ.t) (advF s σ)=_
      rw[hx.2]
      unfold wordF
      simp
     rw[hwf]
     have hu:(advF s σ).wr < 0:=by rw[show (advF s σ).wr=σ.wr from tokF_wr s σ _];exact hw
     exact⟨fail_sim h hw hu τ.l,fun _=>rfl⟩
    ·rw[if_neg (by rintro (x|x);exact h40 x;exact hnot x)]
     exact rest_sim h hw none none (fun _=>rfl) (fun _ e=>by cases e) (fun _=>(Bool.not_eq_true _).mp hnot)
 | n+1,σ,τ,h=>by
   have ih:=cond_sim n
   by_cases hw:σ.wr < 0
   rotate_left
   ·exact cond_bad_sim h hw (some (condF s n)) (fun g e=>by cases e;exact condF_on n) (some (condRF n))
   have hb:=h.neg.1 hw
   show SimC s (condB s (some (condF s n)) σ) (condR (some (condRF n)) τ)
   unfold condB condR
   rw[is_sim h (fit_sign (c:=40) rfl) (by simp)]
   dsimp only
   split
   ·unfold listB groupR
    dsimp only
    obtain⟨h1,_⟩:=take_sim h (fit_sign (c:=40) rfl)
    rw[<-is_sim h1 (fit_word wAnd) (by simp),<-is_sim h1 (fit_word wOr) (by simp)]
    split
    ·rename_i e
     exact head_sim ih (adv_sim h1 e) _ 7 rfl
    ·split
     ·rename_i e
      exact head_sim ih (adv_sim h1 e) _ 8 rfl
     ·obtain⟨h2,e2⟩:=ih _ _ h1
      exact tail_sim ih h2 e2
   ·exact rest_sim h hw _ _ (fun e=>by cases e) (fun g e=>by cases e;exact⟨_,rfl,ih⟩) (fun e=>by cases e)
end
end
end Go.Proofs.YtmnafaaijglnfaaGreatDoor
