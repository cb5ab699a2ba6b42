/- Contracts of ver.CheckRange. Contracts of ver.isRow, wrong, spanText, PrintRange; ver.Parse, Next, text in the words of V4. Contracts of ver.itemOf, behind. The small map of outref2's group: made, asked. Contracts of ver.walk and outref2.CondParts, for whatever visits the parts. Contract of outref2.SameCond, at two conditions that are the same. Plain law: what is printed of a right condition, is read as that condition. Plain law: how long a condition's text is; joined texts. Contracts of feed.place and outref2.PlaceOf. -/
import Derived.Test.YtmnafaaijglnfaaGreatDoorOm08
import Derived.Test.YtmnafaaijglnfaaGreatDoorOm07
import Derived.Test.YtmnafaaijglnfaaGreatDoorOm11
namespace Go.Proofs.YtmnafaaijglnfaaGreatDoor
section
open Go.RowKit
def SmallS (l:List Sp):Prop:=∀ s∈l,s.f.a.size<=2097152∧s.t.a.size<=2097152
theorem errAt_0 {l:List Sp} (h:0 < l.length):errAt l 0=spErr l[0]:=by
 unfold errAt
 have e:l.getD 0 zeroS=l[0]:=by simp[List.getD,List.getElem?_eq_getElem h]
 rw[e]
 by_cases h1:spErr l[0]=0
 ·rw[if_neg (by simpa using h1),if_pos rfl,h1]
 ·rw[if_pos h1]
theorem errAt_bad {l:List Sp} {k:Nat} (h:k < l.length) (h1:¬ spErr l[k]=0):errAt l k=spErr l[k]:=by
 unfold errAt
 have e:l.getD k zeroS=l[k]:=by simp[List.getD,List.getElem?_eq_getElem h]
 rw[e,if_pos h1]
theorem errAt_gap {l:List Sp} {k:Nat} (h:k < l.length) (h0:0 < k) (h1:spErr l[k]=0):errAt l k=gapErr l[k - 1] l[k]:=by
 unfold errAt
 have e:l.getD k zeroS=l[k]:=by simp[List.getD,List.getElem?_eq_getElem h]
 have e2:l.getD (k - 1) zeroS=l[k - 1]:=by simp[List.getD,List.getElem?_eq_getElem (by omega:k - 1 < l.length)]
 rw[e,e2,if_neg (by simpa using h1),if_neg (by omega)]
theorem rng_large {l:List Sp} (h:10 < l.length):rngErr l=4:=by rw[rngErr,if_pos h]
theorem rng_at {l:List Sp} {k:Nat} (hl:l.length<=10) (h:k < l.length) (h0:∀ x∈(errsOf l).take k,x=0) (h1:¬ errAt l k=0):rngErr l=errAt l k:=by
 rw[rngErr,if_neg (by omega)]
 have hk:k < (errsOf l).length:=by rw[errs_length];exact h
 rw[firstI_at hk h0 (by rw[errs_get];exact h1),errs_get]
theorem rng_next {l:List Sp} {k:Nat} (h:k < l.length) (h0:∀ x∈(errsOf l).take k,x=0) (h1:errAt l k=0):∀ x∈(errsOf l).take (k+1),x=0:=by
 have hk:k < (errsOf l).length:=by rw[errs_length];exact h
 exact take_zero_succ hk h0 (by rw[errs_get];exact h1)
theorem rng_all {l:List Sp} (hl:l.length<=10) (h0:∀ x∈(errsOf l).take l.length,x=0):rngErr l=0:=by
 rw[rngErr,if_neg (by omega)]
 rw[List.take_of_length_le (by rw[errs_length];exact Nat.le_refl _)] at h0
 exact firstI_zero h0
theorem gap_ne {p s:Sp} (h:p.ht=false∨s.hf=false∨0<=p.t.ord s.f):gapErr p s=7:=by
 unfold gapErr
 rw[if_pos]
 rcases h with h|h|h<;>simp[h]
theorem gap_ok {p s:Sp} (h1:p.ht=true) (h2:s.hf=true) (h:¬ 0<=p.t.ord s.f):gapErr p s=0:=by
 unfold gapErr
 rw[if_neg]
 simpa [h1,h2] using h
set_option maxHeartbeats 8000000 in
theorem CheckRange_any (A:Option Addr) (n c:Nat) (l:List Sp) (w:World) (hg:Good w) (hn:l.length=n) (hr:RdS w A l) (hs:SmallS l) (hl:n<=2097152) :
 Calls Tryz.prog 89 #[.agg #[.slice A n c]] w fun e w'=>e=.returned (.int .i64 (rngErr l))∧Ext w w':=by
 have HN:=Hy hn
 clear hn
 by_cases h10:10 < n
 ·have hR:rngErr l=4:=rng_large (by rw[HN.out];exact h10)
  have HR:=Hy hR
  clear hR
  go_enter Tryz.func89,Tryz.ntmps89
  go_wp2
  go_ret
  exact⟨ret_int HR.out.symm,Ext.au⟩
 rcases Nat.eq_zero_or_pos n with h0|h0
 ·subst h0
  have he:l=[]:=List.eq_nil_of_length_eq_zero HN.out
  have hR:rngErr l=0:=by rw[he];rfl
  have HR:=Hy hR
  clear he hR
  go_enter Tryz.func89,Tryz.ntmps89
  go_wp2
  go_loop [14] (fun i=>i=.int .i64 0) (fun i=>0)
  case atStart=>rfl
  case round =>
   subst hrel
   go_wp2
   go_ret
   exact⟨ret_int HR.out.symm,Ext.au⟩
 obtain⟨b,o,rfl,hX⟩:=hr (fun e=>by have:=HN.out;rw[e] at this;simp at this;omega)
 clear hr
 go_enter Tryz.func89,Tryz.ntmps89
 go_wp2
 go_loopw [14] (fun i wr=>∃ k:Nat,k<=n∧i=.int .i64 k∧(∀ x∈(errsOf l).take k,x=0)∧Ext (w.alloc (.cells #[.slice (some ⟨b,o,none⟩) n c] 42)) wr) (fun i _=>n - (intOf i).toNat)
 case atStart=>exact⟨0,Nat.zero_le _,rfl,by simp,Ext.refl _⟩
 case round =>
  obtain⟨k,hk,rfl,hall,hxr⟩:=hrel
  have HALL:=Hy hall
  clear hall
  have hxw:Ext w wr:=Ext.trans Ext.au hxr
  have hB:=(Blk.new w 42 #[.slice (some ⟨b,o,none⟩) n c]).ext hxr
  by_cases hlt:k < n
  ·have hk1:k < l.length:=by rw[HN.out];exact hlt
   have X:=hX.ext hxw
   have x0:=X.c0 k hk1;have x1:=X.c1 k hk1;have x2:=X.c2 k hk1;have x3:=X.c3 k hk1;have x4:=X.c4 k hk1
   have x5:=X.c5 k hk1;have x6:=X.c6 k hk1;have x7:=X.c7 k hk1;have x8:=X.c8 k hk1;have x9:=X.c9 k hk1
   have hz1:=hs l[k] (List.getElem_mem hk1)
   have hbad:¬ spErr l[k]=0->rngErr l=spErr l[k]:=fun h=>by
    have e:=errAt_bad hk1 h
    rw[rng_at (by have:=HN.out;omega) hk1 HALL.out (by rw[e];exact h),e]
   have HBAD:=Hy hbad
   have hgood:errAt l k=0->∀ x∈(errsOf l).take (k+1),x=0:=rng_next hk1 HALL.out
   have HGOOD:=Hy hgood
   have hgapb:errAt l k=7->rngErr l=7:=fun h=>by rw[rng_at (by have:=HN.out;omega) hk1 HALL.out (by rw[h];decide),h]
   have HGAPB:=Hy hgapb
   clear hbad hgood hgapb
   by_cases hk0:k=0
   ·subst hk0
    have HE:=Hy (errAt_0 hk1)
    generalize l[0]=s at *
    obtain⟨hf,ht,⟨f1,f2,f3,fa⟩,⟨t1,t2,t3,ta⟩⟩:=s
    dsimp only at x0 x1 x2 x3 x4 x5 x6 x7 x8 x9 hz1
    rw[Nat.zero_mul,Nat.add_zero] at x0 x1 x2 x3 x4 x5 x6 x7 x8 x9
    obtain⟨hz1,hz2⟩:=hz1
    go_wp2_with fail
    refine (spanFault_any ⟨hf,ht,⟨f1,f2,f3,fa⟩,⟨t1,t2,t3,ta⟩⟩ _ (hg.ext (hxw.trans Ext.au)) hz1 hz2).mono ?_
    generalize spErr ⟨hf,ht,⟨f1,f2,f3,fa⟩,⟨t1,t2,t3,ta⟩⟩=r at *
    rintro e w1 ⟨rfl,hx1⟩
    by_cases hr:r=0
    ·have HR:=Hy hr
     rw[hr]
     clear hr
     go_wp2
     go_roundw
     case rel=>exact⟨1,by omega,rfl,HGOOD.out (HE.out.trans HR.out),(hxr.trans Ext.au).trans hx1⟩
     case measure=>simp[intOf];omega
    ·go_wp2
     go_ret
     exact⟨ret_int (HBAD.out hr).symm,(hxw.trans Ext.au).trans hx1⟩
   ·obtain⟨j,rfl⟩:∃ j,k=j+1:=⟨k - 1,by omega⟩
    have hj:j < l.length:=by omega
    have HE:=Hy (errAt_gap hk1 (by omega))
    simp only[Nat.add_sub_cancel] at HE
    have y0:=X.c0 j hj;have y1:=X.c1 j hj;have y2:=X.c2 j hj;have y3:=X.c3 j hj;have y4:=X.c4 j hj
    have y5:=X.c5 j hj;have y6:=X.c6 j hj;have y7:=X.c7 j hj;have y8:=X.c8 j hj;have y9:=X.c9 j hj
    have hz3:=hs l[j] (List.getElem_mem hj)
    clear X hk0
    generalize l[j+1]=s at *
    generalize l[j]=p at *
    have q3:=fun h=>gap_ne (p:=p) (s:=s) (.inl h)
    have q4:=fun h=>gap_ne (p:=p) (s:=s) (.inr (.inl h))
    have q5:=fun h=>gap_ne (p:=p) (s:=s) (.inr (.inr h))
    have q6:=gap_ok (p:=p) (s:=s)
    obtain⟨hf,ht,⟨f1,f2,f3,fa⟩,⟨t1,t2,t3,ta⟩⟩:=s
    obtain⟨pf,pt,⟨g1,g2,g3,ga⟩,⟨u1,u2,u3,ua⟩⟩:=p
    dsimp only at x0 x1 x2 x3 x4 x5 x6 x7 x8 x9 hz1 y0 y1 y2 y3 y4 y5 y6 y7 y8 y9 hz3
    dsimp only[V4.ord] at q3 q4 q5 q6
    generalize gapErr ⟨pf,pt,⟨g1,g2,g3,ga⟩,⟨u1,u2,u3,ua⟩⟩ ⟨hf,ht,⟨f1,f2,f3,fa⟩,⟨t1,t2,t3,ta⟩⟩=G at *
    have Q3:=Hy q3
    have Q4:=Hy q4
    have Q5:=Hy q5
    have Q6:=Hy q6
    clear q3 q4 q5 q6
    obtain⟨hz1,hz2⟩:=hz1
    obtain⟨hz3,hz4⟩:=hz3
    go_wp2_with fail
    refine (spanFault_any ⟨hf,ht,⟨f1,f2,f3,fa⟩,⟨t1,t2,t3,ta⟩⟩ _ (hg.ext (hxw.trans Ext.au)) hz1 hz2).mono ?_
    generalize spErr ⟨hf,ht,⟨f1,f2,f3,fa⟩,⟨t1,t2,t3,ta⟩⟩=r at *
    rintro e w1 ⟨rfl,hx1⟩
    by_cases hr:r=0
    rotate_left
    ·go_wp2
     go_ret
     exact⟨ret_int (HBAD.out hr).symm,(hxw.trans Ext.au).trans hx1⟩
    have HG:=Hy (HE.out hr)
    rw[hr]
    clear hr
    have bS:=(Blk.new wr 130 #[.bool hf,.bool ht,.int .i64 f1,.int .i64 f2,.int .i64 f3,.string fa,.int .i64 t1,.int .i64 t2,.int .i64 t3,.string ta]).ext hx1
    have sc:=bS.cell
    have sl:=bS.lt
    have bB:=(hB.alloc _).ext hx1
    have bc:=bB.cell
    have hxa:Ext wr w1:=Ext.trans Ext.au hx1
    have hlw:=hB.lt
    have y0:=hxa.cell y0;have y1:=hxa.cell y1;have y2:=hxa.cell y2;have y3:=hxa.cell y3;have y4:=hxa.cell y4
    have y5:=hxa.cell y5;have y6:=hxa.cell y6;have y7:=hxa.cell y7;have y8:=hxa.cell y8;have y9:=hxa.cell y9
    clear x0 x1 x2 x3 x4 x5 x6 x7 x8 x9
    cases pt
    ·go_wp2
     go_ret
     exact⟨ret_int (HGAPB.out (HG.out.trans (Q3.out (by trivial)))).symm,hxw.trans Ext.au⟩
    cases hf
    ·go_wp2
     go_ret
     exact⟨ret_int (HGAPB.out (HG.out.trans (Q4.out (by trivial)))).symm,hxw.trans Ext.au⟩
    go_wp2_with fail
    refine (Order_any f1 f2 f3 u1 u2 u3 fa ua _ (hg.ext (hxw.trans Ext.au)) hz1 hz4).mono ?_
    rintro e w2 ⟨rfl,hx2⟩
    have hon:=order_neg f1 f2 f3 (bs fa) u1 u2 u3 (bs ua)
    have HON:=Hy hon
    clear hon
    have hxb:Ext w w2:=Ext.trans (hxw.trans Ext.au) hx2
    have hxc:Ext wr w2:=Ext.trans Ext.au hx2
    by_cases ho:orderL f1 f2 f3 (bs fa) u1 u2 u3 (bs ua)<=0
    ·have HO:=Hy ho
     go_wp2
     go_ret
     exact⟨ret_int (HGAPB.out (HG.out.trans (Q5.out (by rw[HON.out];have:=HO.out;omega)))).symm,hxb⟩
    ·have HO:=Hy ho
     go_wp2
     go_roundw
     case rel=>exact⟨j+1+1,by omega,by go_num,HGOOD.out (HG.out.trans (Q6.out (by trivial) (by trivial) (by rw[HON.out];have:=HO.out;omega))),hxr.trans hxc⟩
     case measure=>simp[intOf];omega
  ·obtain rfl:k=n:=by omega
   go_wp2
   go_ret
   exact⟨ret_int (rng_all (by have:=HN.out;omega) (by rw[HN.out];exact HALL.out)).symm,hxw⟩
end
section
open Go.RowKit
theorem isRow_any (s:ByteArray) (w:World) (hg:Good w) (hs:s.size<=2097152) :
 Calls Tryz.prog 161 #[.string s] w fun e w'=>e=.returned (.bool (rowL (bs s)))∧w=w':=by
 go_enter Tryz.func161,Tryz.ntmps161
 go_wp2_with (go_at_call 232;refine (contains_any 32 s _ hg hs).mono ?_;rintro e w' ⟨rfl,rfl⟩)
 go_ret
 exact⟨ret_bool (by simp[rowL]),rfl⟩
theorem parse_val {s b:ByteArray} (hb:bs b=(parseV (bs s)).1.2.2.2):(⟨(parseV (bs s)).1.2.2.2.toArray⟩:ByteArray)=b:=by rw[<-hb,mk_bs]
theorem Parse_x (s:ByteArray) (w:World) (hg:GoodN w) (hs:s.size<=2097152) :
 Calls Tryz.prog 26 #[.string s] w fun e w'=>∃ v r,pV (bs s)=(v,r)∧e=.returned (.tuple #[verV v,.int .i64 r])∧v.a.size<=s.size∧Ext w w' :=
 (Parse_any s w hg hs).mono fun _ _ ⟨b,hp,hb,hz,hx⟩=>by
   rw[bs_length] at hz
   refine⟨⟨(parseV (bs s)).1.1,(parseV (bs s)).1.2.1,(parseV (bs s)).1.2.2.1,b⟩,(parseV (bs s)).2,?_,hp,hz,hx⟩
   unfold pV
   rw[parse_val hb]
theorem Read_x (s:ByteArray) (w:World) (hg:GoodN w) (hs:s.size<=2097152) :
 Calls Tryz.prog 27 #[.string s] w fun e w'=>∃ v r,pV (bs s)=(v,r)∧e=.returned (.tuple #[verV v,.int .i64 r])∧v.a.size<=s.size∧Ext w w' :=
 (ReadVersion_any s w hg hs).mono fun _ _ ⟨b,hp,hb,hz,hx⟩=>by
   rw[bs_length] at hz
   refine⟨⟨(parseV (bs s)).1.1,(parseV (bs s)).1.2.1,(parseV (bs s)).1.2.2.1,b⟩,(parseV (bs s)).2,?_,hp,hz,hx⟩
   unfold pV
   rw[parse_val hb]
theorem Next_x (v:V4) (part:Int) (w:World) (hg:Good w) (hs:v.a.size<=2097152) :
 Calls Tryz.prog 14 #[verV v,.int .i64 part] w fun e w'=>∃ x y z r,nV v part=(⟨x,y,z,⟨#[]⟩⟩,r)∧e=.returned (.tuple #[verV ⟨x,y,z,⟨#[]⟩⟩,.int .i64 r])∧Ext w w' :=
 (Next_any v.a1 v.a2 v.a3 part v.a w hg hs).mono fun _ _ ⟨h,hx⟩=>⟨_,_,_,_,rfl,h,hx⟩
theorem NextOf_x (v:V4) (part:Int) (w:World) (hg:Good w) (hs:v.a.size<=2097152) :
 Calls Tryz.prog 15 #[verV v,.int .i64 part] w fun e w'=>∃ x y z r,nV v part=(⟨x,y,z,⟨#[]⟩⟩,r)∧e=.returned (.tuple #[verV ⟨x,y,z,⟨#[]⟩⟩,.int .i64 r])∧Ext w w' :=
 (NextOf_any v.a1 v.a2 v.a3 part v.a w hg hs).mono fun _ _ ⟨h,hx⟩=>⟨_,_,_,_,rfl,h,hx⟩
set_option maxHeartbeats 1000000 in
theorem wrong_any (s:ByteArray) (w:World) (hg:GoodN w) (hs:s.size<=2097152) :
 Calls Tryz.prog 93 #[.string s] w fun e w'=>e=.returned (.bool (wrongL (bs s)))∧Ext w w':=by
 go_enter Tryz.func93,Tryz.ntmps93
 go_wp2_with fail
 refine (Parse_x s _ hg hs).mono ?_
 rintro e w1 ⟨⟨x,y,z,b⟩,r,hp,rfl,_,hx1⟩
 have HP:=Hy hp
 clear hp
 by_cases h8:r=8
 ·subst h8
  go_wp2
  go_ret
  exact⟨ret_bool (by unfold wrongL;rw[HP.out];rfl),hx1.alloc _⟩
 ·have H8:=Hy h8
  have hb:(r==8)=false:=by rw[beq_eq_false_iff_ne];exact h8
  go_wp2
  go_ret
  exact⟨ret_bool (by unfold wrongL;rw[HP.out];exact (decide_eq_false H8.out).symm),hx1.alloc _⟩
theorem early_len {v:V4} (h:v.err=0):(bs v.a).length<=40:=by
 obtain⟨_,_,_,he⟩:=checkV_ok (show checkV v.a1 v.a2 v.a3 (bs v.a)=0 from h)
 rcases he with he|he
 ·rw[he];simp
 ·unfold earlyL at he
  simp only[Bool.and_eq_true,decide_eq_true_eq] at he
  exact he.2
theorem text_len {v:V4} (h:v.err=0):v.text.length<=110:=by
 have h40:=early_len h
 rw[bs_length] at h40
 obtain⟨⟨a1,a2⟩,⟨b1,b2⟩,⟨c1,c2⟩,_⟩:=checkV_ok (show checkV v.a1 v.a2 v.a3 (bs v.a)=0 from h)
 have la:=Lib.itoa_length_le v.a1 (by omega) (by omega)
 have li:=Lib.itoa_length_le v.a2 (by omega) (by omega)
 have lp:=Lib.itoa_length_le v.a3 (by omega) (by omega)
 unfold V4.text textL
 split<;>simp<;>omega
theorem vtext_x (v:V4) (w:World) (hg:GoodN w) (hs:v.a.size<=2097152) (h:v.err=0) :
 Calls Tryz.prog 24 #[verV v] w fun e w'=>e=.returned (S v.text)∧Ext w w':=by
 obtain⟨⟨a1,a2⟩,⟨b1,b2⟩,⟨c1,c2⟩,_⟩:=checkV_ok (show checkV v.a1 v.a2 v.a3 (bs v.a)=0 from h)
 exact VersionText_any v.a1 v.a2 v.a3 v.a w hg hs a1 a2 b1 b2 c1 c2
end
section
open Go.RowKit
abbrev itV (sg:UInt8) (a b:ByteArray):Value:=.agg #[.int .u8 sg.toNat,.string a,.string b]
def ItemPost (s:ByteArray) (w:World) (E:Ending) (w':World):Prop :=
 ∃ (sg:UInt8) (a b:ByteArray) (ok:Bool),itemL (bs s)=(⟨sg,bs a,bs b⟩,ok)∧E=.returned (.tuple #[itV sg a b,.bool ok])∧a.size<=s.size∧b.size<=s.size∧Ext w w'
theorem item_star {l:Str} (h:l=[42]):itemL l=(⟨42,[],[]⟩,true):=by rw[itemL,if_pos h]
theorem item_two {l a b:Str} (h0:¬ l=[42]) (h1:Lib.hasPrefix l [62,61]=true) (h2:cutC 32 (l.drop 2)=(a,b,true)) :
 itemL l=(⟨98,a,Lib.trimPrefix b [60]⟩,Lib.hasPrefix b [60]&&rowL a&&rowL (Lib.trimPrefix b [60])):=by
 rw[itemL,if_neg h0,if_pos h1,h2,if_pos rfl]
theorem item_from {l a b:Str} (h0:¬ l=[42]) (h1:Lib.hasPrefix l [62,61]=true) (h2:cutC 32 (l.drop 2)=(a,b,false)):itemL l=(⟨62,l.drop 2,[]⟩,rowL (l.drop 2)):=by
 rw[itemL,if_neg h0,if_pos h1,h2,if_neg (by simp)]
theorem item_sign {l:Str} (h0:¬ l=[42]) (h1:¬ Lib.hasPrefix l [62,61]=true) (h2:(!l.isEmpty&&[60,61,94,126].contains (l.headD 0))=true):itemL l=(⟨l.headD 0,l.drop 1,[]⟩,rowL (l.drop 1)):=by
 rw[itemL,if_neg h0,if_neg h1,if_pos h2]
theorem item_else {l:Str} (h0:¬ l=[42]) (h1:¬ Lib.hasPrefix l [62,61]=true) (h2:¬ (!l.isEmpty&&[60,61,94,126].contains (l.headD 0))=true):itemL l=(⟨94,l,[]⟩,rowL l):=by
 rw[itemL,if_neg h0,if_neg h1,if_neg h2]
theorem trimPrefix_size (b:ByteArray) (p:Str):(⟨(Lib.trimPrefix (bs b) p).toArray⟩:ByteArray).size<=b.size:=by
 have:=Lib.trimPrefix_le (bs b) p
 rw[bs_length] at this
 rw[<-bs_length,bs_mk]
 exact this
theorem trim_hit {l p:Str} (h:Lib.hasPrefix l p=true):Lib.trimPrefix l p=l.drop p.length:=by rw[Lib.trimPrefix,if_pos h]
set_option maxHeartbeats 8000000 in
theorem itemOf_any (s:ByteArray) (w:World) (hg:Good w) (hs:s.size<=2097152) :
 Calls Tryz.prog 92 #[.string s] w (ItemPost s w):=by
 go_enter Tryz.func92,Tryz.ntmps92
 by_cases h0:bs s=[42]
 ·have he:(s.toList==[42])=true:=by rw[lit_beq,beq_iff_eq];exact h0
  have HI:=Hy (item_star h0)
  clear h0
  go_wp2
  refine bodyPost_ret (v:=.tuple #[itV 42 ⟨#[]⟩ ⟨#[]⟩,.bool true]) (by simp[results,Tryz.results92,go_sem]) rfl ⟨42,⟨#[]⟩,⟨#[]⟩,true,HI.out,rfl,Nat.zero_le _,Nat.zero_le _,Ext.au⟩
 have he:(s.toList==[42])=false:=by rw[lit_beq,beq_eq_false_iff_ne];exact h0
 have H0:=Hy h0
 clear h0
 go_wp2_with fail
 refine (cutPrefix_any s ⟨#[62,61]⟩ _).mono ?_
 rintro e w' ⟨rfl,rfl⟩
 by_cases h1:Lib.hasPrefix (bs s) [62,61]=true
 ·have h1':(bs ⟨#[62,61]⟩).isPrefixOf (bs s)=true:=h1
  rw[h1']
  have htp:bs (⟨(Lib.trimPrefix (bs s) (bs ⟨#[62,61]⟩)).toArray⟩:ByteArray)=(bs s).drop 2:=by rw[bs_mk];exact trim_hit h1
  have hsz:(⟨(Lib.trimPrefix (bs s) (bs ⟨#[62,61]⟩)).toArray⟩:ByteArray).size<=s.size:=trimPrefix_size s _
  dsimp only[S]
  generalize (⟨(Lib.trimPrefix (bs s) (bs ⟨#[62,61]⟩)).toArray⟩:ByteArray)=fr at *
  have HTP:=Hy htp
  have H1:=Hy h1
  clear h1 h1' htp
  go_wp2_with fail
  refine (cut_ex 32 fr _ (hg.ext Ext.au) (by omega)).mono ?_
  rintro e w1 ⟨a,b,fl,rfl,hcut,hsa,hsb,hx1⟩
  rw[HTP.out] at hcut
  have hx:Ext w w1:=Ext.trans Ext.au hx1
  have bR:=((Blk.new w 135 #[.int .u8 0,.string ⟨#[]⟩,.string ⟨#[]⟩]).alloc (.cells #[.int .u8 62,.string fr,.string ⟨#[]⟩] 135)).ext hx1
  have bI:=(Blk.new (w.alloc (.cells #[.int .u8 0,.string ⟨#[]⟩,.string ⟨#[]⟩] 135)) 135 #[.int .u8 62,.string fr,.string ⟨#[]⟩]).ext hx1
  rw[World.size_alloc] at bI
  have cR:=bR.cell;have fR:=bR.free;have zR:=bR.lt
  have cI:=bI.cell;have zI:=bI.lt
  clear hx1
  cases fl
  ·have HI:=Hy (item_from H0.out H1.out hcut)
   rw[<-HTP.out] at HI
   clear hcut
   go_wp2_with fail
   refine wp_region_ext_tail 4 (by kernel_rfl) (by kernel_rfl) ?_
   simp only[List.take_succ_cons,List.take_zero,List.drop_succ_cons,List.drop_zero]
   repeat (first|go_big_quiet_skip|(refine wpQuiet_step (fun K hK=>?_);go_simp;first|(refine hK _ ?_;clear hK K)|(apply Exists.intro;refine⟨fun wq hwq=>?_,hK _ ?_⟩;(obtain⟨hqc,hqf⟩:=hwq.cells;have hqs:=hwq.size;(try go_simp);first|rfl|((first|rw[if_neg (by omega)]|rw[if_pos (by omega)]);(try go_simp);rfl)|((go_at_call 161;exact (isRow_any fr _ ((hg.ext hx).ext hwq) (by omega)).mono (fun e w'' h=>⟨h.1,h.2 ▸ hwq⟩))));clear hK K)))
   refine wpQuiet_nil ?_
   intro wN hxN
   obtain⟨hcN,hfN⟩:=hxN.cells
   have hsN:=hxN.size
   have bRN:=bR.ext hxN
   have cRN:=bRN.cell;have fRN:=bRN.free;have zRN:=bRN.lt
   go_wp2
   refine bodyPost_ret (v:=.tuple #[itV 62 fr ⟨#[]⟩,.bool (rowL (bs fr))]) (by simp[results,Tryz.results92,go_sem,cRN]) rfl ⟨62,fr,⟨#[]⟩,_,HI.out,rfl,hsz,Nat.zero_le _,?_⟩
   have hxWN:=hx.trans hxN
   exact Ext.ad
  ·have HI:=Hy (item_two H0.out H1.out hcut)
   clear hcut
   go_wp2_with fail
   refine (cutPrefix_any b ⟨#[60]⟩ _).mono ?_
   rintro e w' ⟨rfl,rfl⟩
   have hto:bs (⟨(Lib.trimPrefix (bs b) (bs ⟨#[60]⟩)).toArray⟩:ByteArray)=Lib.trimPrefix (bs b) [60]:=by rw[bs_mk]
   have hsz2:(⟨(Lib.trimPrefix (bs b) (bs ⟨#[60]⟩)).toArray⟩:ByteArray).size<=b.size:=trimPrefix_size b _
   dsimp only[S]
   have hle:(bs ⟨#[60]⟩).isPrefixOf (bs b)=Lib.hasPrefix (bs b) [60]:=rfl
   rw[hle]
   generalize (⟨(Lib.trimPrefix (bs b) (bs ⟨#[60]⟩)).toArray⟩:ByteArray)=tb at *
   rw[<-hto] at HI
   clear hto hle
   have HIX:Hid (∃ ok,itemL (bs s)=(⟨98,bs a,bs tb⟩,ok)∧ok=(Lib.hasPrefix (bs b) [60]&&rowL (bs a)&&rowL (bs tb))):=Hy ⟨_,HI.out,rfl⟩
   clear HI
   cases hp:Lib.hasPrefix (bs b) [60]
   ·rw[hp] at HIX
    clear hp
    go_wp2
    refine bodyPost_ret (v:=.tuple #[itV 98 a tb,.bool false]) (by simp[results,Tryz.results92,go_sem,cR]) rfl ⟨98,a,tb,false,?_,rfl,by omega,by omega,?_⟩
    ·obtain⟨ok,h1,h2⟩:=HIX.out
     rw[h1,h2];rfl
    ·exact Ext.ad
   ·rw[hp] at HIX
    clear hp
    go_wp2_with fail
    refine (isRow_any a _ (hg.ext hx) (by omega)).mono ?_
    rintro e w' ⟨rfl,rfl⟩
    cases hp:rowL (bs a)
    ·rw[hp] at HIX
     clear hp
     go_wp2
     refine bodyPost_ret (v:=.tuple #[itV 98 a tb,.bool false]) (by simp[results,Tryz.results92,go_sem,cR]) rfl ⟨98,a,tb,false,?_,rfl,by omega,by omega,?_⟩
     ·obtain⟨ok,h1,h2⟩:=HIX.out
      rw[h1,h2];rfl
     ·exact Ext.ad
    ·rw[hp] at HIX
     clear hp
     go_wp2_with fail
     refine (isRow_any tb _ (hg.ext hx) (by omega)).mono ?_
     rintro e w' ⟨rfl,rfl⟩
     go_wp2
     refine bodyPost_ret (v:=.tuple #[itV 98 a tb,.bool (rowL (bs tb))]) (by simp[results,Tryz.results92,go_sem,cR]) rfl ⟨98,a,tb,rowL (bs tb),?_,rfl,by omega,by omega,?_⟩
     ·obtain⟨ok,h1,h2⟩:=HIX.out
      rw[h1,h2];rfl
     ·exact Ext.ad
 have h1f:(bs ⟨#[62,61]⟩).isPrefixOf (bs s)=false:=by
  have:Lib.hasPrefix (bs s) [62,61]=false:=by simpa using h1
  exact this
 rw[h1f]
 have H1:=Hy h1
 clear h1 h1f
 have tail:∀ (sg:UInt8) (x:ByteArray),x.size<=s.size->itemL (bs s)=(⟨sg,bs x,[]⟩,rowL (bs x))->True:=fun _ _ _ _=>trivial
 rcases Nat.eq_zero_or_pos s.size with hz|hz
 ·have hi:=emp_bool hz
  have HI:=Hy (item_else H0.out H1.out (by rw[bs_nil hz];decide))
  have bR:=(Blk.new w 135 #[.int .u8 0,.string ⟨#[]⟩,.string ⟨#[]⟩]).alloc (.cells #[.int .u8 94,.string s,.string ⟨#[]⟩] 135)
  go_wp2_with fail
  refine wp_region_ext_tail 4 (by kernel_rfl) (by kernel_rfl) ?_
  simp only[List.take_succ_cons,List.take_zero,List.drop_succ_cons,List.drop_zero]
  repeat (first|go_big_quiet_skip|(refine wpQuiet_step (fun K hK=>?_);go_simp;first|(refine hK _ ?_;clear hK K)|(apply Exists.intro;refine⟨fun wq hwq=>?_,hK _ ?_⟩;(obtain⟨hqc,hqf⟩:=hwq.cells;have hqs:=hwq.size;(try go_simp);first|rfl|((first|rw[if_neg (by omega)]|rw[if_pos (by omega)]);(try go_simp);rfl)|((go_at_call 161;exact (isRow_any s _ (hg.ext (Ext.trans Ext.au hwq)) (by omega)).mono (fun e w'' h=>⟨h.1,h.2 ▸ hwq⟩))));clear hK K)))
  refine wpQuiet_nil ?_
  intro wN hxN
  obtain⟨hcN,hfN⟩:=hxN.cells
  have hsN:=hxN.size
  have bRN:=bR.ext hxN
  have cRN:=bRN.cell;have fRN:=bRN.free;have zRN:=bRN.lt
  go_wp2
  refine bodyPost_ret (v:=.tuple #[itV 94 s ⟨#[]⟩,.bool (rowL (bs s))]) (by simp[results,Tryz.results92,go_sem,cRN]) rfl ⟨94,s,⟨#[]⟩,_,HI.out,rfl,Nat.le_refl _,Nat.zero_le _,?_⟩
  have hxWN:Ext w wN:=Ext.trans Ext.au hxN
  exact Ext.ad
 have hi:=nemp_bool hz
 have hne:(bs s).isEmpty=false:=by rw[ByteArray.toList_eq] at hi;exact hi
 have HNE:=Hy hne
 have HHD:=Hy (head_bs s hz)
 clear hne tail
 go_wp2_with fail
 refine (indexByte_any ⟨#[60,61,94,126]⟩ s[0] _).mono ?_
 rintro e w' ⟨rfl,rfl⟩
 have bR:=(Blk.new w 135 #[.int .u8 0,.string ⟨#[]⟩,.string ⟨#[]⟩]).alloc (.cells #[.int .u8 94,.string s,.string ⟨#[]⟩] 135)
 have bI:=Blk.new (w.alloc (.cells #[.int .u8 0,.string ⟨#[]⟩,.string ⟨#[]⟩] 135)) 135 #[.int .u8 94,.string s,.string ⟨#[]⟩]
 rw[World.size_alloc] at bI
 cases hc:([60,61,94,126]:Str).contains s[0]
 ·have hge:¬ 0<=Lib.indexByte (bs ⟨#[60,61,94,126]⟩) s[0]:=by have:=indexByte_out hc;show ¬ 0<=Lib.indexByte [60,61,94,126] s[0];omega
  have HI:=Hy (item_else H0.out H1.out (by rw[HNE.out,HHD.out,hc];decide))
  clear hc
  go_wp2_with fail
  refine wp_region_ext_tail 4 (by kernel_rfl) (by kernel_rfl) ?_
  simp only[List.take_succ_cons,List.take_zero,List.drop_succ_cons,List.drop_zero]
  repeat (first|go_big_quiet_skip|(refine wpQuiet_step (fun K hK=>?_);go_simp;first|(refine hK _ ?_;clear hK K)|(apply Exists.intro;refine⟨fun wq hwq=>?_,hK _ ?_⟩;(obtain⟨hqc,hqf⟩:=hwq.cells;have hqs:=hwq.size;(try go_simp);first|rfl|((first|rw[if_neg (by omega)]|rw[if_pos (by omega)]);(try go_simp);rfl)|((go_at_call 161;exact (isRow_any s _ (hg.ext (Ext.trans Ext.au hwq)) (by omega)).mono (fun e w'' h=>⟨h.1,h.2 ▸ hwq⟩))));clear hK K)))
  refine wpQuiet_nil ?_
  intro wN hxN
  obtain⟨hcN,hfN⟩:=hxN.cells
  have hsN:=hxN.size
  have bRN:=bR.ext hxN
  have cRN:=bRN.cell;have fRN:=bRN.free;have zRN:=bRN.lt
  go_wp2
  refine bodyPost_ret (v:=.tuple #[itV 94 s ⟨#[]⟩,.bool (rowL (bs s))]) (by simp[results,Tryz.results92,go_sem,cRN]) rfl ⟨94,s,⟨#[]⟩,_,HI.out,rfl,Nat.le_refl _,Nat.zero_le _,?_⟩
  have hxWN:Ext w wN:=Ext.trans Ext.au hxN
  exact Ext.ad
 ·have hge:0<=Lib.indexByte (bs ⟨#[60,61,94,126]⟩) s[0]:=by have:=indexByte_in hc;show 0<=Lib.indexByte [60,61,94,126] s[0];omega
  have hi2:=item_sign H0.out H1.out (by rw[HNE.out,HHD.out,hc];rfl)
  rw[HHD.out] at hi2
  have hd:bs (s.extract 1 s.size)=(bs s).drop 1:=Lib.extract_to_end s 1
  rw[<-hd] at hi2
  have HI:=Hy hi2
  have hsz:(s.extract 1 s.size).size<=s.size:=by simp
  clear hc hi2 hd
  go_wp2_with fail
  refine wp_region_ext_tail 5 (by kernel_rfl) (by kernel_rfl) ?_
  simp only[List.take_succ_cons,List.take_zero,List.drop_succ_cons,List.drop_zero]
  repeat (first|go_big_quiet_skip|(refine wpQuiet_step (fun K hK=>?_);go_simp;first|(refine hK _ ?_;clear hK K)|(apply Exists.intro;refine⟨fun wq hwq=>?_,hK _ ?_⟩;(obtain⟨hqc,hqf⟩:=hwq.cells;have hqs:=hwq.size;(try go_simp);first|rfl|((first|rw[if_neg (by omega)]|rw[if_pos (by omega)]);(try go_simp);rfl)|((fail)));clear hK K)))
  refine wpQuiet_nil ?_
  intro wN hxN
  obtain⟨hcN,hfN⟩:=hxN.cells
  have hsN:=hxN.size
  have bRN:=bR.ext hxN
  have bIN:=bI.ext hxN
  have cRN:=bRN.cell;have fRN:=bRN.free;have zRN:=bRN.lt
  have cIN:=bIN.cell;have fIN:=bIN.free;have zIN:=bIN.lt
  have hxWN:Ext w wN:=Ext.trans Ext.au hxN
  go_wp2_with fail
  have hW:Ext w (((wN.setCell ⟨w.heap.size+1,0,none⟩ (.int .u8 s[0].toNat)).setCell ⟨w.heap.size+1,1,none⟩ (.string (s.extract 1 s.size))).setCell ⟨w.heap.size+1,2,none⟩ (.string ⟨#[]⟩)):=Ext.ad
  have bI2:=((bIN.set 0 (.int .u8 s[0].toNat)).set 1 (.string (s.extract 1 s.size))).set 2 (.string ⟨#[]⟩)
  have bR2:=((bRN.far (p:=⟨w.heap.size+1,0,none⟩) (by simp) (.int .u8 s[0].toNat)).far (p:=⟨w.heap.size+1,1,none⟩) (by simp) (.string (s.extract 1 s.size))).far (p:=⟨w.heap.size+1,2,none⟩) (by simp) (.string ⟨#[]⟩)
  clear bRN bIN cRN fRN zRN cIN fIN zIN hxN hcN hfN hsN hxWN bR bI
  generalize (((wN.setCell ⟨w.heap.size+1,0,none⟩ (.int .u8 s[0].toNat)).setCell ⟨w.heap.size+1,1,none⟩ (.string (s.extract 1 s.size))).setCell ⟨w.heap.size+1,2,none⟩ (.string ⟨#[]⟩))=W2 at *
  have cI2:=bI2.cell
  have zI2:=bI2.lt
  refine wp_region_ext_tail 4 (by kernel_rfl) (by kernel_rfl) ?_
  simp only[List.take_succ_cons,List.take_zero,List.drop_succ_cons,List.drop_zero]
  repeat (first|go_big_quiet_skip|(refine wpQuiet_step (fun K hK=>?_);go_simp;first|(refine hK _ ?_;clear hK K)|(apply Exists.intro;refine⟨fun wq hwq=>?_,hK _ ?_⟩;(obtain⟨hqc,hqf⟩:=hwq.cells;have hqs:=hwq.size;(try go_simp);first|rfl|((first|rw[if_neg (by omega)]|rw[if_pos (by omega)]);(try go_simp);rfl)|((go_at_call 161;exact (isRow_any (s.extract 1 s.size) _ ((hg.ext hW).ext hwq) (by omega)).mono (fun e w'' h=>⟨h.1,h.2 ▸ hwq⟩))));clear hK K)))
  refine wpQuiet_nil ?_
  intro wM hxM
  obtain⟨hcM,hfM⟩:=hxM.cells
  have hsM:=hxM.size
  have hxWM:=hW.trans hxM
  have bRM:=bR2.ext hxM
  have cRM:=bRM.cell;have fRM:=bRM.free;have zRM:=bRM.lt
  go_wp2
  refine bodyPost_ret (v:=.tuple #[itV s[0] (s.extract 1 s.size) ⟨#[]⟩,.bool (rowL (bs (s.extract 1 s.size)))]) (by simp[results,Tryz.results92,go_sem,cRM]) rfl ⟨s[0],s.extract 1 s.size,⟨#[]⟩,_,HI.out,rfl,hsz,Nat.zero_le _,?_⟩
  exact Ext.ad
end
section
open Go.RowKit
abbrev eAnd:MapEntry:=⟨.string ⟨#[97,110,100]⟩,.int .i64 7,0⟩
abbrev eOr:MapEntry:=⟨.string ⟨#[111,114]⟩,.int .i64 8,1⟩
def KindMap (w:World) (b:Nat):Prop:=w.heap[b]?=some (.map #[eAnd,eOr] 2)
theorem KindMap.lt {w:World} {b:Nat} (h:KindMap w b):b < w.heap.size:=(Array.getElem?_eq_some_iff.1 h).1
theorem KindMap.ext {b:Nat} {w w':World} (h:KindMap w b) (hx:Ext w w'):KindMap w' b:=(hx.block b h.lt).trans h
theorem KindMap.alloc {b:Nat} {w:World} (h:KindMap w b) (o:Obj):KindMap (w.alloc o) b:=h.ext ((Ext.refl w).alloc o)
theorem KindMap.far {b:Nat} {w:World} (h:KindMap w b) {p:Addr} (hp:b≠p.block) (u:Value):KindMap (w.setCell p u) b:=(Below.heap_setCell w p u b hp).trans h
theorem KindMap.grownR {b:Nat} {row:Option Nat} {w w':World} (h:KindMap w b) (hg:w.grownBy w' row) (hne:some b≠row):KindMap w' b:=(hg.block b h.lt hne).trans h
end
section
open Go.RowKit
theorem CdIn.extC {C P:Nat->Prop} {w w':World} {c:Cd} {v:Value} (h:CdIn P w c v) (hx:ExtC C w w') (hp:∀ k,P k->¬ C k):CdIn P w' c v:=h.keep fun b _ _ hb e=>hx.cell (hp b hb) e
def runP {α:Type} (step:Cd->Nat->α->α × Bool):List (Cd × Nat)->α->α × Bool
 | [],st=>(st,true)
 | p::r,st=>if (step p.1 p.2 st).2=true then runP step r (step p.1 p.2 st).1 else ((step p.1 p.2 st).1,false)
theorem runP_append {α:Type} (step:Cd->Nat->α->α × Bool) (b:List (Cd × Nat)):∀ (a:List (Cd × Nat)) (st:α),runP step (a++b) st=if (runP step a st).2=true then runP step b (runP step a st).1 else ((runP step a st).1,false)
 | [],st=>by simp[runP]
 | p::r,st=>by
   simp only[List.cons_append,runP]
   by_cases h:(step p.1 p.2 st).2=true
   ·simp only[if_pos h,runP_append step b r]
   ·simp only[if_neg h]
    simp
theorem runP_stop {α:Type} (step:Cd->Nat->α->α × Bool) (lev:Nat) (l:List Cd) (j:Nat) (h:j < l.length) {st s1 s2:α} (h1:runP step (prts lev (l.take j)) st=(s1,true)) (h2:runP step (prt lev l[j]) s1=(s2,false)):runP step (prts lev l) st=(s2,false):=by
 have e:prts lev l=(prts lev (l.take j)++prt lev l[j])++prts lev (l.drop (j+1)):=by
  rw[List.append_assoc]
  conv=>lhs;rw[<-List.take_append_drop j l,prts_append,List.drop_eq_getElem_cons h]
  rfl
 rw[e,runP_append,runP_append,h1]
 simp[h2]
theorem runP_next {α:Type} (step:Cd->Nat->α->α × Bool) (lev:Nat) (l:List Cd) (j:Nat) (h:j < l.length) {st s1 s2:α} (h1:runP step (prts lev (l.take j)) st=(s1,true)) (h2:runP step (prt lev l[j]) s1=(s2,true)):runP step (prts lev (l.take (j+1))) st=(s2,true):=by
 have e:prts lev (l.take (j+1))=prts lev (l.take j)++prt lev l[j]:=by
  rw[List.take_succ_eq_append_getElem h,prts_append]
  simp[prts]
 rw[e,runP_append,h1]
 simp[h2]
theorem cnts_at:∀ (l:List Cd) (j:Nat) (h:j < l.length),cnt l[j]<=cnts l
 | c::l,0,_=>by simp only[cnts,List.getElem_cons_zero];omega
 | c::l,j+1,h=>by
   have:=cnts_at l j (by simpa using h)
   simp only[cnts,List.getElem_cons_succ]
   omega
theorem cnts_len:∀ (l:List Cd),l.length<=cnts l
 | []=>Nat.le_refl _
 | c::l=>by
   have:=cnts_len l
   have:=cnt_pos c
   simp only[cnts,List.length_cons]
   omega
theorem runP_yes {α:Type} (step:Cd->Nat->α->α × Bool) (hyes:∀ c lev st,(step c lev st).2=true):∀ (l:List (Cd × Nat)) (st:α),(runP step l st).2=true
 | [],_=>rfl
 | p::r,st=>by
   unfold runP
   rw[if_pos (hyes _ _ _)]
   exact runP_yes step hyes r _
set_option maxRecDepth 100000 in
set_option maxHeartbeats 8000000 in
theorem walk_any {α:Type} (f:FuncId) (caps:Array Value) (hen:∀ xs w,Sem.run Tryz.prog (callFunc f xs) w=.ok (.enter f xs) w) (P C:Nat->Prop) (B:Nat) (Inv:α->World->Prop) (step:Cd->Nat->α->α × Bool)
 (hal:∀ st w w',Inv st w->Ext w w'->Inv st w') (hC:∀ k,C k->k < B) (hB:∀ st w,Inv st w->B<=w.heap.size) (hP:∀ k,P k->¬ C k)
 (hf:∀ c v (lev:Nat) st w,lev<=1000000000->SmallC c->CdIn P w c v->Inv st w->Calls Tryz.prog f (#[v,.int .i64 lev]++caps) w fun e w'=>e=.returned (.bool (step c lev st).2)∧Inv (step c lev st).1 w'∧ExtC C w w') :
 ∀ (N:Nat) (c:Cd),cnt c<=N->∀ (lev:Nat) (v:Value) (st:α) (w:World),lev+N<=1000000000->SmallC c->CdIn P w c v->Inv st w ->
  Calls Tryz.prog 171 #[v,.int .i64 lev,.func (.func f) #[] caps] w fun e w'=>e=.returned (.bool (runP step (prt lev c) st).2)∧Inv (runP step (prt lev c) st).1 w'∧ExtC C w w':=by
 intro N
 induction N with
 | zero=>intro c hc;have:=cnt_pos c;omega
 | succ N ih =>
   intro c hc lev v st w hlev hsm hcd hinv
   have hc0:=hcd
   cases hcd with
   | mk k n x l A cp b o u0 u1 u2 u3 hA hb h0 h1 h2 h3 hr =>
     obtain⟨_,_,_,_,hsn,hsx,hsl,hsr⟩:=hsm
     have hnw:w.heap.size<=w.heap.size:=Nat.le_refl _
     have hBw:=hB _ _ hinv
     have hnC:¬ C w.heap.size:=fun h=>by have:=hC _ h;omega
     have hxb:Ext w (w.alloc (.cells #[.int .i64 k,.string n,.string x,.slice A l.length cp] 52)):=(Ext.refl w).alloc _
     have hfb:=hf (.mk k n x l) _ lev st _ (by omega) ⟨k,n,x,l,hsn,hsx,hsl,hsr⟩ (hc0.ext hxb) (hal _ _ _ hinv hxb)
     have bx:=Blk.new w 52 #[.int .i64 k,.string n,.string x,.slice A l.length cp]
     have hrun:runP step (prt lev (.mk k n x l)) st=(if (step (.mk k n x l) lev st).2=true then runP step (prts (lev+1) l) (step (.mk k n x l) lev st).1 else ((step (.mk k n x l) lev st).1,false)):=rfl
     rw[hrun]
     have hcl:cnts l<=N:=by unfold cnt at hc;omega
     have hlw:IntKind.i64.wrap ((lev:Int)+1)=(lev:Int)+1:=by rw[IntKind.wrap_i64];omega
     have hll:=cnts_len l
     skip
     generalize step (.mk k n x l) lev st=S at *
     obtain⟨st1,ok⟩:=S
     dsimp only at hfb ⊢
     have HF:=Hy hfb
     have HEN:=hen
     clear hfb hrun hc hinv
     cases ok
     ·go_enter Tryz.func171,Tryz.ntmps171
      go_wp2_with fail
      refine HF.out.mono ?_
      rintro e w1 ⟨rfl,hinv1,hx1⟩
      go_wp2
      go_ret
      exact⟨rfl,hinv1,(ExtC.ofExt hxb).trans hx1⟩
     obtain⟨R,hR⟩:∃ R,runP step (prts (lev+1) l) st1=R:=⟨_,rfl⟩
     rw[if_pos rfl,hR]
     have HR:=Hy hR
     have HIHs:=Hy ih
     have HSR:=Hy hsr
     have HH0:=Hy h0;have HH1:=Hy h1;have HH2:=Hy h2;have HH3:=Hy h3;have HHR:=Hy hr
     have HB:=Hy hB;have HP:=Hy hP;have HA:=Hy hA;have HBB:=Hy hb;have HAL:=Hy hal
     clear hR ih hf h0 h1 h2 h3 hr hsr hB hP hA hb hc0 hal
     go_enter Tryz.func171,Tryz.ntmps171
     go_wp2_with fail
     refine HF.out.mono ?_
     rintro e w1 ⟨rfl,hinv1,hx1⟩
     have bx1:=bx.extC hx1 hnC
     have bc:=bx1.cell;have bf:=bx1.free;have bz:=bx1.lt
     have hxa:=(ExtC.ofExt hxb).trans hx1
     clear bx
     go_wp2
     go_loopw [17] (fun t wr=>∃ (j:Nat) (sj:α),t=.int .i64 j∧j<=l.length∧Inv sj wr∧ExtC C w wr∧runP step (prts (lev+1) (l.take j)) st1=(sj,true)) (fun t _=>l.length - (intOf t).toNat)
     case atStart=>exact⟨0,st1,by go_num,Nat.zero_le _,hinv1,hxa,rfl⟩
     case round =>
      obtain⟨j,sj,rfl,hj,hinvr,hxr,hdone⟩:=hrel
      have HXR:=Hy hxr
      clear bc bf bz bx1 hx1 hinv1 HF hxa
      by_cases hlt:j < l.length
      ·obtain rfl:=HA.out (by omega)
       have hPb:=HBB.out (by omega)
       have hnb:=HP.out b hPb
       have g0:=hxr.cell hnb (HH0.out j hlt)
       have g1:=hxr.cell hnb (HH1.out j hlt)
       have g2:=hxr.cell hnb (HH2.out j hlt)
       have g3:=hxr.cell hnb (HH3.out j hlt)
       have hcj:=HHR.out j hlt
       obtain⟨ck,cn,cx,cA,cm,ccp,hcc⟩:=hcj.cells
       have hcc2:=hcc
       simp only[Value.agg.injEq,Array.mk.injEq,List.cons.injEq,and_true] at hcc2
       obtain⟨q0,q1,q2,q3⟩:=hcc2
       rw[hcc] at hcj
       rw[q0] at g0;rw[q1] at g1;rw[q2] at g2;rw[q3] at g3
       clear hcc q0 q1 q2 q3
       have hxc:Ext wr (wr.alloc (.cells #[.int .i64 ck,.string cn,.string cx,.slice cA cm ccp] 52)):=(Ext.refl wr).alloc _
       have hih:=HIHs.out l[j] (Nat.le_trans (cnts_at l j hlt) hcl) (lev+1) _ sj _ (by omega) (HSR.out _ (List.getElem_mem hlt)) ((hcj.extC hxr HP.out).ext hxc) (HAL.out _ _ _ hinvr hxc)
       rw[show ((lev+1:Nat):Int)=(lev:Int)+1 by omega] at hih
       generalize hs2:runP step (prt (lev+1) l[j]) sj=S2 at *
       have hq0:(0:Int)<=(j:Int):=by omega
       clear hxr hxc hcj
       obtain⟨s2,ok2⟩:=S2
       dsimp only at hih
       have HIH:=Hy hih
       cases ok2
       ·have hfin:=runP_stop step (lev+1) l j hlt hdone hs2
        rw[HR.out] at hfin
        subst hfin
        clear hdone hs2 hih
        go_wp2_with fail
        refine HIH.out.mono ?_
        rintro e w3 ⟨rfl,hinv3,hx3⟩
        go_wp2
        go_ret
        exact⟨rfl,hinv3,(HXR.out.trans (ExtC.ofExt ((Ext.refl wr).alloc _))).trans hx3⟩
       ·have hnx:=runP_next step (lev+1) l j hlt hdone hs2
        have HNX:=Hy hnx
        clear hdone hs2 hnx hih
        go_wp2_with fail
        refine HIH.out.mono ?_
        rintro e w3 ⟨rfl,hinv3,hx3⟩
        go_wp2
        go_roundw
        case rel=>exact⟨j+1,s2,by go_num,hlt,hinv3,(HXR.out.trans (ExtC.ofExt ((Ext.refl wr).alloc _))).trans hx3,HNX.out⟩
        case measure=>simp[intOf];omega
      ·have hjl:l.take j=l:=List.take_of_length_le (by omega)
       rw[hjl,HR.out] at hdone
       subst hdone
       go_wp2
       go_ret
       exact⟨rfl,hinvr,HXR.out⟩
set_option maxRecDepth 100000 in
set_option maxHeartbeats 8000000 in
theorem CondParts_any {α:Type} (f:FuncId) (caps:Array Value) (hen:∀ xs w,Sem.run Tryz.prog (callFunc f xs) w=.ok (.enter f xs) w) (P C:Nat->Prop) (B:Nat) (Inv:α->World->Prop) (step:Cd->Nat->α->α × Bool)
 (hal:∀ st w w',Inv st w->Ext w w'->Inv st w') (hC:∀ k,C k->k < B) (hB:∀ st w,Inv st w->B<=w.heap.size) (hP:∀ k,P k->¬ C k) (hyes:∀ c lev st,(step c lev st).2=true)
 (hf:∀ c v (lev:Nat) st w,lev<=1000000000->SmallC c->CdIn P w c v->Inv st w->Calls Tryz.prog f (#[v,.int .i64 lev]++caps) w fun e w'=>e=.returned (.tuple #[])∧Inv (step c lev st).1 w'∧ExtC C w w') :
 ∀ (N:Nat) (c:Cd),cnt c<=N->∀ (lev:Nat) (v:Value) (st:α) (w:World),lev+N<=1000000000->SmallC c->CdIn P w c v->Inv st w ->
  Calls Tryz.prog 179 #[v,.int .i64 lev,.func (.func f) #[] caps] w fun e w'=>e=.returned (.tuple #[])∧Inv (runP step (prt lev c) st).1 w'∧ExtC C w w':=by
 intro N
 induction N with
 | zero=>intro c hc;have:=cnt_pos c;omega
 | succ N ih =>
   intro c hc lev v st w hlev hsm hcd hinv
   have hc0:=hcd
   cases hcd with
   | mk k n x l A cp b o u0 u1 u2 u3 hA hb h0 h1 h2 h3 hr =>
     obtain⟨_,_,_,_,hsn,hsx,hsl,hsr⟩:=hsm
     have hnw:w.heap.size<=w.heap.size:=Nat.le_refl _
     have hBw:=hB _ _ hinv
     have hnC:¬ C w.heap.size:=fun h=>by have:=hC _ h;omega
     have hxb:Ext w (w.alloc (.cells #[.int .i64 k,.string n,.string x,.slice A l.length cp] 52)):=(Ext.refl w).alloc _
     have hfb:=hf (.mk k n x l) _ lev st _ (by omega) ⟨k,n,x,l,hsn,hsx,hsl,hsr⟩ (hc0.ext hxb) (hal _ _ _ hinv hxb)
     have bx:=Blk.new w 52 #[.int .i64 k,.string n,.string x,.slice A l.length cp]
     have hrun:runP step (prt lev (.mk k n x l)) st=(if (step (.mk k n x l) lev st).2=true then runP step (prts (lev+1) l) (step (.mk k n x l) lev st).1 else ((step (.mk k n x l) lev st).1,false)):=rfl
     rw[hrun]
     have hcl:cnts l<=N:=by unfold cnt at hc;omega
     have hlw:IntKind.i64.wrap ((lev:Int)+1)=(lev:Int)+1:=by rw[IntKind.wrap_i64];omega
     have hll:=cnts_len l
     have hok:=hyes (.mk k n x l) lev st
     generalize step (.mk k n x l) lev st=S at *
     obtain⟨st1,ok⟩:=S
     dsimp only at hfb hok ⊢
     have HF:=Hy hfb
     have HEN:=hen
     clear hfb hrun hc hinv
     obtain rfl:ok=true:=hok
     obtain⟨R,hR⟩:∃ R,runP step (prts (lev+1) l) st1=R:=⟨_,rfl⟩
     rw[if_pos rfl,hR]
     have HR:=Hy hR
     have HIHs:=Hy ih
     have HSR:=Hy hsr
     have HH0:=Hy h0;have HH1:=Hy h1;have HH2:=Hy h2;have HH3:=Hy h3;have HHR:=Hy hr
     have HB:=Hy hB;have HP:=Hy hP;have HA:=Hy hA;have HBB:=Hy hb;have HAL:=Hy hal
     clear hR ih hf h0 h1 h2 h3 hr hsr hB hP hA hb hc0 hal
     go_enter Tryz.func179,Tryz.ntmps179
     go_wp2_with fail
     refine HF.out.mono ?_
     rintro e w1 ⟨rfl,hinv1,hx1⟩
     have bx1:=bx.extC hx1 hnC
     have bc:=bx1.cell;have bf:=bx1.free;have bz:=bx1.lt
     have hxa:=(ExtC.ofExt hxb).trans hx1
     clear bx
     go_wp2
     go_loopw [15] (fun t wr=>∃ (j:Nat) (sj:α),t=.int .i64 j∧j<=l.length∧Inv sj wr∧ExtC C w wr∧runP step (prts (lev+1) (l.take j)) st1=(sj,true)) (fun t _=>l.length - (intOf t).toNat)
     case atStart=>exact⟨0,st1,by go_num,Nat.zero_le _,hinv1,hxa,rfl⟩
     case round =>
      obtain⟨j,sj,rfl,hj,hinvr,hxr,hdone⟩:=hrel
      have HXR:=Hy hxr
      clear bc bf bz bx1 hx1 hinv1 HF hxa
      by_cases hlt:j < l.length
      ·obtain rfl:=HA.out (by omega)
       have hPb:=HBB.out (by omega)
       have hnb:=HP.out b hPb
       have g0:=hxr.cell hnb (HH0.out j hlt)
       have g1:=hxr.cell hnb (HH1.out j hlt)
       have g2:=hxr.cell hnb (HH2.out j hlt)
       have g3:=hxr.cell hnb (HH3.out j hlt)
       have hcj:=HHR.out j hlt
       obtain⟨ck,cn,cx,cA,cm,ccp,hcc⟩:=hcj.cells
       have hcc2:=hcc
       simp only[Value.agg.injEq,Array.mk.injEq,List.cons.injEq,and_true] at hcc2
       obtain⟨q0,q1,q2,q3⟩:=hcc2
       rw[hcc] at hcj
       rw[q0] at g0;rw[q1] at g1;rw[q2] at g2;rw[q3] at g3
       clear hcc q0 q1 q2 q3
       have hxc:Ext wr (wr.alloc (.cells #[.int .i64 ck,.string cn,.string cx,.slice cA cm ccp] 52)):=(Ext.refl wr).alloc _
       have hih:=HIHs.out l[j] (Nat.le_trans (cnts_at l j hlt) hcl) (lev+1) _ sj _ (by omega) (HSR.out _ (List.getElem_mem hlt)) ((hcj.extC hxr HP.out).ext hxc) (HAL.out _ _ _ hinvr hxc)
       rw[show ((lev+1:Nat):Int)=(lev:Int)+1 by omega] at hih
       generalize hs2:runP step (prt (lev+1) l[j]) sj=S2 at *
       have hq0:(0:Int)<=(j:Int):=by omega
       clear hxr hxc hcj
       obtain⟨s2,ok2⟩:=S2
       have hok2:ok2=true:=by
        have:=runP_yes step hyes (prt (lev+1) l[j]) sj
        rw[hs2] at this
        exact this
       subst hok2
       dsimp only at hih
       have HIH:=Hy hih
       have hnx:=runP_next step (lev+1) l j hlt hdone hs2
       have HNX:=Hy hnx
       clear hdone hs2 hnx hih
       go_wp2_with fail
       refine HIH.out.mono ?_
       rintro e w3 ⟨rfl,hinv3,hx3⟩
       go_wp2
       go_roundw
       case rel=>exact⟨j+1,s2,by go_num,hlt,hinv3,(HXR.out.trans (ExtC.ofExt ((Ext.refl wr).alloc _))).trans hx3,HNX.out⟩
       case measure=>simp[intOf];omega
      ·have hjl:l.take j=l:=List.take_of_length_le (by omega)
       rw[hjl,HR.out] at hdone
       subst hdone
       go_wp2
       refine bodyPost_end (results_none rfl _ _ _) rfl ⟨rfl,hinvr,HXR.out⟩
end
section
open Go.RowKit
theorem cnts_mem':∀ {l:List Cd} {c:Cd},c∈l->cnt c<=cnts l
 | a::l,c,h=>by
   rcases List.mem_cons.1 h with rfl|h
   ·simp only[cnts];omega
   ·have:=cnts_mem' h
    simp only[cnts];omega
theorem cntz_len:∀ (l:List Cd),l.length<=cnts l
 | []=>Nat.le_refl _
 | c::l=>by
   have:=cntz_len l
   have:=cnt_pos c
   simp only[cnts,List.length_cons]
   omega
def ArgAt (P:Nat->Prop) (w:World) (l:List Cd) (b o:Nat):Prop:=∀ j (hj:j < l.length),∃ (ck:Int) (cn cx:ByteArray) (cA:Option Addr) (cm ccp:Nat),
 w.cell? ⟨b,o+j * 4,none⟩=some (.int .i64 ck)∧w.cell? ⟨b,o+j * 4+1,none⟩=some (.string cn)∧w.cell? ⟨b,o+j * 4+2,none⟩=some (.string cx)∧w.cell? ⟨b,o+j * 4+3,none⟩=some (.slice cA cm ccp) ∧
 CdIn P w l[j] (.agg #[.int .i64 ck,.string cn,.string cx,.slice cA cm ccp])
theorem ArgAt.ext {P:Nat->Prop} {w w':World} {l:List Cd} {b o:Nat} (h:ArgAt P w l b o) (hx:Ext w w'):ArgAt P w' l b o:=fun j hj=>by
 obtain⟨ck,cn,cx,cA,cm,ccp,h0,h1,h2,h3,hc⟩:=h j hj
 exact⟨ck,cn,cx,cA,cm,ccp,hx.cell h0,hx.cell h1,hx.cell h2,hx.cell h3,hc.ext hx⟩
theorem CdIn.arg {P:Nat->Prop} {w:World} {k:Int} {n x:ByteArray} {l:List Cd} {v:Value} (h:CdIn P w (.mk k n x l) v) :
 ∃ (A:Option Addr) (cp b o:Nat),v=.agg #[.int .i64 k,.string n,.string x,.slice A l.length cp]∧(0 < l.length->A=some ⟨b,o,none⟩)∧ArgAt P w l b o:=by
 cases h with
 | mk k n x l A cp b o u0 u1 u2 u3 hA hb h0 h1 h2 h3 hr =>
   refine⟨A,cp,b,o,rfl,hA,fun j hj=>?_⟩
   have hc:=hr j hj
   obtain⟨ck,cn,cx,cA,cm,ccp,hcc⟩:=hc.cells
   have hcc2:=hcc
   simp only[Value.agg.injEq,Array.mk.injEq,List.cons.injEq,and_true] at hcc2
   obtain⟨q0,q1,q2,q3⟩:=hcc2
   exact⟨ck,cn,cx,cA,cm,ccp,q0 ▸ h0 j hj,q1 ▸ h1 j hj,q2 ▸ h2 j hj,q3 ▸ h3 j hj,hcc ▸ hc⟩
set_option maxRecDepth 100000 in
set_option maxHeartbeats 8000000 in
theorem EqualC_any (l:List Cd) (P Q:Nat->Prop) (hl:l.length<=100000000)
 (hS:∀ c∈l,∀ v1 v2 w,CdIn P w c v1->CdIn Q w c v2->Calls Tryz.prog 36 #[v1,v2] w fun e w'=>e=.returned (.bool true)∧Ext w w')
 (A1 A2:Option Addr) (c1 c2 b1 o1 b2 o2:Nat) (w:World) (hA1:0 < l.length->A1=some ⟨b1,o1,none⟩) (hA2:0 < l.length->A2=some ⟨b2,o2,none⟩) (h1:ArgAt P w l b1 o1) (h2:ArgAt Q w l b2 o2) :
 Calls Tryz.prog 106 #[.slice A1 l.length c1,.slice A2 l.length c2,.func (.func 36) #[] #[]] w fun e w'=>e=.returned (.bool true)∧Ext w w':=by
 have hen:∀ xs w,Sem.run Tryz.prog (callFunc 36 xs) w=.ok (.enter 36 xs) w:=fun xs w=>by kernel_rfl
 have hne:((l.length:Int) != (l.length:Int))=false:=by rw[bne,beq_iff_eq.2 rfl];rfl
 have HS:=Hy hS
 have H1:=Hy h1;have H2:=Hy h2;have HA1:=Hy hA1;have HA2:=Hy hA2
 clear hS h1 h2 hA1 hA2
 go_enter Tryz.func106,Tryz.ntmps106
 go_wp2
 go_loopw [17] (fun t wr=>∃ j:Nat,t=.int .i64 j∧j<=l.length∧Ext w wr) (fun t _=>l.length - (intOf t).toNat)
 case atStart=>exact⟨0,by go_num,Nat.zero_le _,Ext.refl w⟩
 case round =>
  obtain⟨j,rfl,hj,hxr⟩:=hrel
  have HXR:=Hy hxr
  by_cases hlt:j < l.length
  ·obtain rfl:=HA1.out (by omega)
   obtain rfl:=HA2.out (by omega)
   obtain⟨k1,n1,x1,B1,m1,p1,g0,g1,g2,g3,hc1⟩:=H1.out.ext hxr j hlt
   obtain⟨k2,n2,x2,B2,m2,p2,g4,g5,g6,g7,hc2⟩:=H2.out.ext hxr j hlt
   have hxc:Ext wr ((wr.alloc (.cells #[.int .i64 k1,.string n1,.string x1,.slice B1 m1 p1] 52)).alloc (.cells #[.int .i64 k2,.string n2,.string x2,.slice B2 m2 p2] 52)):=((Ext.refl wr).alloc _).alloc _
   have hs:=HS.out l[j] (List.getElem_mem hlt) _ _ _ (hc1.ext hxc) (hc2.ext hxc)
   have HSS:=Hy hs
   have hq0:(0:Int)<=(j:Int):=by omega
   have hlb1:=lt_of_cell g0;have hlb2:=lt_of_cell g4
   clear hs hc1 hc2 hxr hxc
   go_wp2_with fail
   refine HSS.out.mono ?_
   rintro e w3 ⟨rfl,hx3⟩
   go_wp2
   go_roundw
   case rel=>exact⟨j+1,by go_num,hlt,(((HXR.out.alloc _).alloc _).trans hx3)⟩
   case measure=>simp[intOf];omega
  ·go_wp2
   go_ret
   exact⟨rfl,HXR.out⟩
set_option maxRecDepth 100000 in
set_option maxHeartbeats 8000000 in
theorem SameCond_refl (P Q:Nat->Prop):∀ (N:Nat) (c:Cd),cnt c<=N->N<=100000000->∀ (v1 v2:Value) (w:World),CdIn P w c v1->CdIn Q w c v2 ->
 Calls Tryz.prog 36 #[v1,v2] w fun e w'=>e=.returned (.bool true)∧Ext w w':=by
 intro N
 induction N with
 | zero=>intro c hc;have:=cnt_pos c;omega
 | succ N ih =>
   intro c hc hN v1 v2 w h1 h2
   obtain⟨k,n,x,l⟩:=c
   obtain⟨A1,p1,b1,o1,rfl,hA1,ha1⟩:=h1.arg
   obtain⟨A2,p2,b2,o2,rfl,hA2,ha2⟩:=h2.arg
   have hcl:cnts l<=N:=by unfold cnt at hc;omega
   have hll:=cntz_len l
   have hxb:Ext w ((w.alloc (.cells #[.int .i64 k,.string n,.string x,.slice A1 l.length p1] 52)).alloc (.cells #[.int .i64 k,.string n,.string x,.slice A2 l.length p2] 52)):=((Ext.refl w).alloc _).alloc _
   have hE:=EqualC_any l P Q (by omega) (fun c hcm v1 v2 w g1 g2=>ih c (Nat.le_trans (cnts_mem' hcm) hcl) (by omega) v1 v2 w g1 g2) A1 A2 p1 p2 b1 o1 b2 o2 _ hA1 hA2 (ha1.ext hxb) (ha2.ext hxb)
   have HE:=Hy hE
   have e1:(k==k)=true:=beq_iff_eq.2 rfl
   have e2:(n.toList==n.toList)=true:=by rw[eqE,decide_eq_true rfl]
   have e3:(x.toList==x.toList)=true:=by rw[eqE,decide_eq_true rfl]
   clear hE ih h1 h2 ha1 ha2 hA1 hA2
   go_enter Tryz.func36,Tryz.ntmps36
   go_wp2_with fail
   refine HE.out.mono ?_
   rintro e w1 ⟨rfl,hx1⟩
   go_wp2
   go_ret
   exact⟨rfl,hxb.trans hx1⟩
end
section
theorem firstE_zero:∀ {l:List (Cd × Nat)},firstErr l=0->∀ p∈l,partC p.1=0
 | q::r,h,p,hp=>by
   rw[firstErr] at h
   by_cases hq:partC q.1=0
   ·rw[if_pos hq] at h
    rcases List.mem_cons.1 hp with rfl|hp
    ·exact hq
    ·exact firstE_zero h p hp
   ·rw[if_neg hq] at h;exact absurd h hq
theorem prts_mem (lev:Nat):∀ {l:List Cd} {c:Cd},c∈l->∀ p∈prt lev c,p∈prts lev l
 | d::l,c,h,p,hp=>by
   rw[prts,List.mem_append]
   rcases List.mem_cons.1 h with rfl|h
   ·exact .inl hp
   ·exact .inr (prts_mem lev h p hp)
theorem ok_levels:∀ (m lev:Nat) (c:Cd),lev+m=100->(∀ p∈prt lev c,partC p.1=0∧p.2<=20)->OkD m c:=by
 intro m
 induction m with
 | zero =>
   intro lev c hl h
   obtain⟨k,n,x,l⟩:=c
   have:=(h (.mk k n x l,lev) (by rw[prt];simp)).2
   dsimp only at this
   omega
 | succ m ih =>
   intro lev c hl h
   obtain⟨k,n,x,l⟩:=c
   refine⟨(h (.mk k n x l,lev) (by rw[prt];simp)).1,fun c hc=>ih (lev+1) c (by omega) fun p hp=>h p ?_⟩
   rw[prt,List.mem_cons]
   exact .inr (prts_mem (lev+1) hc p hp)
theorem ok_of_check {c:Cd} (h:checkC c=0):OkD 100 c:=by
 unfold checkC at h
 by_cases h1:100 < cnt c
 ·rw[if_pos h1] at h;cases h
 rw[if_neg h1] at h
 by_cases h2:firstErr (prt 0 c)=0
 ·rw[if_neg (by simpa using h2)] at h
  by_cases h3:(prt 0 c).any (fun p=>decide (20 < p.2))=true
  ·rw[if_pos h3] at h;cases h
  ·refine ok_levels 100 0 c rfl fun p hp=>⟨firstE_zero h2 p hp,?_⟩
   refine Nat.le_of_not_lt fun hlt=>h3 (List.any_eq_true.2 ⟨p,hp,decide_eq_true hlt⟩)
 ·rw[if_pos h2] at h;exact absurd h h2
end
section
theorem pathL_len {l:Str} (h:pathL l=true):l.length<=200:=by
 unfold pathL at h
 simp only[Bool.and_eq_true,decide_eq_true_eq] at h
 exact h.2
theorem part_sizes {k:Int} {n x:Str} {m:Nat} (h:partErr k n x m=0):n.length<=200∧x.length<=1000:=by
 have hk:=part_kind h
 have hf:=part_form h
 obtain⟨f1,f2,_,_⟩:=form_leaf hf
 by_cases hn:namedK k=true
 ·unfold partErr at h
  rw[if_neg (by omega),if_neg (by rw[hf];decide),if_neg (by rw[hn];decide)] at h
  by_cases hx:(!(if k=3∨k=4 then pathL n else nameL n))=true
  ·rw[if_pos hx] at h;cases h
  ·rw[if_neg hx] at h
   have h1:n.length<=200:=by
    by_cases h34:k=3∨k=4
    ·rw[if_pos h34] at hx;exact pathL_len (by simpa using hx)
    ·rw[if_neg h34] at hx
     have hx:nameL n=true:=by simpa using hx
     unfold nameL eachL at hx
     simp only[Bool.and_eq_true,decide_eq_true_eq] at hx
     omega
   by_cases hv:(!valueL x)=true
   ·rw[if_pos hv] at h;cases h
   ·have hv:valueL x=true:=by simpa using hv
    unfold valueL at hv
    simp only[Bool.and_eq_true,decide_eq_true_eq] at hv
    exact⟨h1,hv.2⟩
 ·have hn:namedK k=false:=by simpa using hn
  rw[f1 hn,f2 (by unfold valuedK;rw[hn];rfl)]
  exact⟨Nat.zero_le _,Nat.zero_le _⟩
theorem part_range {n x:Str} {m:Nat} (h:partErr 5 n x m=0):(parseR x).2=0:=by
 have hf:=part_form h
 unfold partErr at h
 rw[if_neg (by decide),if_neg (by rw[hf];decide),if_neg (by decide)] at h
 by_cases hx:(!(if (5:Int)=3∨(5:Int)=4 then pathL n else nameL n))=true
 ·rw[if_pos hx] at h;cases h
 ·rw[if_neg hx] at h
  by_cases hv:(!valueL x)=true
  ·rw[if_pos hv] at h;cases h
  ·rw[if_neg hv,if_pos rfl] at h
   exact h
end
section
open Go.RowKit
def placeT (m n:ByteArray) (v:V4):Str:=bs m++[0]++bs n++[0]++v.text
def placeV (m n:ByteArray) (v:V4):Int:=(fnvL (placeT m n v) / 4294967296 % 1000:Nat)
theorem sum8 (l:Str) {Y:ByteArray} (hY:bs Y=sumT l):bs (Y.extract 0 8)=hexN 8 (fnvL l / 4294967296):=by
 show (Y.extract 0 8).data.toList=_
 rw[Lib.extract_data]
 have e:(Y.data.toList.take 8).drop 0=hexN 8 (fnvL l / 4294967296):=by
  rw[List.drop_zero,show Y.data.toList=hexN 16 (fnvL l) from hY,hex_first8]
 first|exact e|(rw[<-List.drop_take] at *;exact e)|(simpa [List.drop_take] using e)
theorem sum8_lt (l:Str):fnvL l / 4294967296 < 4294967296:=by
 have:=fnvL_lt l
 omega
set_option maxRecDepth 100000 in
set_option maxHeartbeats 4000000 in
theorem place_any (m n:ByteArray) (v:V4) (w:World) (hg:GoodN w) (hm:m.size<=2097152) (hn:n.size<=2097152) (hv:v.a.size<=2097152) (h0:v.err=0) :
 Calls Tryz.prog 113 #[.string m,.string n,verV v] w fun e w'=>e=.returned (.int .i64 (placeV m n v))∧Ext w w':=by
 obtain⟨v1,v2,v3,va⟩:=v
 have HPL:=Hy (show placeV m n ⟨v1,v2,v3,va⟩=(fnvL (placeT m n ⟨v1,v2,v3,va⟩) / 4294967296 % 1000:Nat) from rfl)
 have hpr:printV v1 v2 v3 (bs va)=(⟨v1,v2,v3,va⟩:V4).text:=by rw[printV,if_pos (show checkV v1 v2 v3 (bs va)=0 from h0)];rfl
 have CP:=Hy (fun W (h:Ext w W)=>Print_any v1 v2 v3 va W (hg.ext h) hv)
 rw[show checkV v1 v2 v3 (bs va)=0 from h0,hpr] at CP
 have htl:(⟨v1,v2,v3,va⟩:V4).text.length<=2097152:=by have:=text_len h0;omega
 obtain⟨T,hTS,hTb⟩:∃ T:ByteArray,S (⟨v1,v2,v3,va⟩:V4).text=.string T∧bs T=(⟨v1,v2,v3,va⟩:V4).text:=⟨_,rfl,bs_mk _⟩
 have hTz:T.size<=2097152:=by rw[<-bs_length,hTb];exact htl
 have htx:placeT m n ⟨v1,v2,v3,va⟩=bs (m++⟨#[0]⟩++n++⟨#[0]⟩++T):=by
  unfold placeT
  rw[<-hTb,bs_append,bs_append,bs_append,bs_append]
 have hXz:(m++⟨#[0]⟩++n++⟨#[0]⟩++T).size<=9000000:=by
  have h1:(⟨#[0]⟩:ByteArray).size=1:=rfl
  simp only[ByteArray.size_append,h1]
  omega
 rw[hTS] at CP
 generalize placeV m n ⟨v1,v2,v3,va⟩=R at *
 generalize placeT m n ⟨v1,v2,v3,va⟩=PT at *
 have CS:=Hy (fun W=>SumOf_any (m++⟨#[0]⟩++n++⟨#[0]⟩++T) W hXz)
 rw[<-htx] at CS
 obtain⟨Y,hYS,hYb⟩:∃ Y:ByteArray,S (sumT PT)=.string Y∧bs Y=sumT PT:=⟨_,rfl,bs_mk _⟩
 have hYz:Y.size=16:=by rw[<-bs_length,hYb,sumT,hexN_length]
 rw[hYS] at CS
 have CU:=Hy (fun W=>parseUint_any (Y.extract 0 8) (fnvL PT / 4294967296) (sum8_lt PT) (sum8 PT hYb) W)
 generalize fnvL PT / 4294967296=M at *
 clear htx hXz hTS hTb hYS hYb hpr htl hg h0
 go_enter Tryz.func113,Tryz.ntmps113
 go_wp2_with fail
 refine (CP.out _ Ext.au).mono ?_
 rintro e w1 ⟨rfl,hx1⟩
 have hx01:Ext w w1:=Ext.trans Ext.au hx1
 go_wp2_with fail
 refine (CS.out _).mono ?_
 rintro e w2 ⟨rfl,hx2⟩
 go_wp2_with fail
 refine (CU.out _).mono ?_
 rintro e w3 ⟨rfl,hx3⟩
 have hx:=hx01.trans (hx2.trans hx3)
 go_wp2
 go_ret
 exact⟨ret_int HPL.out.symm,hx⟩
set_option maxRecDepth 100000 in
set_option maxHeartbeats 4000000 in
theorem PlaceOf_any (m n:ByteArray) (v:V4) (w:World) (hg:GoodS w) (hm:m.size<=2097152) (hn:n.size<=2097152) (hv:v.a.size<=2097152) (h0:v.err=0) :
 Calls Tryz.prog 49 #[.string m,.string n,verV v] w fun e w'=>e=.returned (.int .i64 (placeV m n v))∧Ext w w':=by
 obtain⟨v1,v2,v3,va⟩:=v
 have HPL:=Hy (show placeV m n ⟨v1,v2,v3,va⟩=(fnvL (placeT m n ⟨v1,v2,v3,va⟩) / 4294967296 % 1000:Nat) from rfl)
 have CP:=Hy (fun W (h:Ext w W)=>vtext_x ⟨v1,v2,v3,va⟩ W (hg.toGoodN.ext h) hv h0)
 have htl:(⟨v1,v2,v3,va⟩:V4).text.length<=2097152:=by have:=text_len h0;omega
 obtain⟨T,hTS,hTb⟩:∃ T:ByteArray,S (⟨v1,v2,v3,va⟩:V4).text=.string T∧bs T=(⟨v1,v2,v3,va⟩:V4).text:=⟨_,rfl,bs_mk _⟩
 have hTz:T.size<=2097152:=by rw[<-bs_length,hTb];exact htl
 have htx:placeT m n ⟨v1,v2,v3,va⟩=bs (m++⟨#[0]⟩++n++⟨#[0]⟩++T):=by
  unfold placeT
  rw[<-hTb,bs_append,bs_append,bs_append,bs_append]
 have hXz:(m++⟨#[0]⟩++n++⟨#[0]⟩++T).size<=9000000:=by
  have h1:(⟨#[0]⟩:ByteArray).size=1:=rfl
  simp only[ByteArray.size_append,h1]
  omega
 rw[hTS] at CP
 generalize placeV m n ⟨v1,v2,v3,va⟩=R at *
 generalize placeT m n ⟨v1,v2,v3,va⟩=PT at *
 have CS:=Hy (fun W (h:Ext w W)=>SumOfR_any (m++⟨#[0]⟩++n++⟨#[0]⟩++T) W (hg.ext h) hXz)
 rw[<-htx] at CS
 obtain⟨Y,hYS,hYb⟩:∃ Y:ByteArray,S (sumT PT)=.string Y∧bs Y=sumT PT:=⟨_,rfl,bs_mk _⟩
 have hYz:Y.size=16:=by rw[<-bs_length,hYb,sumT,hexN_length]
 rw[hYS] at CS
 have CU:=Hy (fun W=>parseUint_any (Y.extract 0 8) (fnvL PT / 4294967296) (sum8_lt PT) (sum8 PT hYb) W)
 generalize fnvL PT / 4294967296=M at *
 clear htx hXz hTS hTb hYS hYb htl hg h0
 have b0:=Blk.new w 23 #[.int .i64 v1,.int .i64 v2,.int .i64 v3,.string va]
 have hx0:Ext w (w.alloc (.cells #[.int .i64 v1,.int .i64 v2,.int .i64 v3,.string va] 23)):=(Ext.refl w).alloc _
 generalize hW:w.alloc (.cells #[.int .i64 v1,.int .i64 v2,.int .i64 v3,.string va] 23)=W0 at *
 have HW:=Hy hW
 clear hW
 have e0:=b0.cell
 have l0:=b0.lt
 go_enter Tryz.func49,Tryz.ntmps49
 go_wp2_with fail
 rw[HW.out]
 go_wp2_with fail
 refine (CP.out _ hx0).mono ?_
 rintro e w1 ⟨rfl,hx1⟩
 go_wp2_with fail
 refine (CS.out _ (hx0.trans hx1)).mono ?_
 rintro e w2 ⟨rfl,hx2⟩
 go_wp2_with fail
 refine (CU.out _).mono ?_
 rintro e w3 ⟨rfl,hx3⟩
 go_wp2
 go_ret
 exact⟨ret_int HPL.out.symm,hx0.trans (hx1.trans (hx2.trans hx3))⟩
end
end Go.Proofs.YtmnafaaijglnfaaGreatDoor
