/- Contracts of ver.CheckRange. Contracts of ver.isRow, wrong, spanText, PrintRange; ver.Parse, Next, text in the words of V4. Contracts of ver.itemOf, behind. Contract of ver.ParseRange. Moves in memory. Moves among the arguments. Offers and feeds: their errors in plain words, and what memory holds of them. -/
import Derived.Test.YtmpccllnpcbgcaaGreatDoorPk07
import Derived.Test.YtmpccllnpcbgcaaGreatDoorPk08
import Derived.Deep.Strs
namespace Go.Proofs.YtmpccllnpcbgcaaGreatDoor
section
open Go.RowKit
def SmallS (l:List Sp):Prop:=∀ s∈l,s.f.a.size<=2097152∧s.t.a.size<=2097152
theorem errAt_0 {l:List Sp} (h:0 < l.length):errAt l 0=spErr l[0]:=by
 unfold errAt
 have e:l.getD 0 zeroS=l[0]:=by simp[List.getD,List.getElem?_eq_getElem h]
 rw[e]
 by_cases h1:spErr l[0]=0
 ·rw[if_neg (by simpa using h1),if_pos rfl,h1]
 ·rw[if_pos h1]
theorem errAt_bad {l:List Sp} {k:Nat} (h:k < l.length) (h1:¬ spErr l[k]=0):errAt l k=spErr l[k]:=by
 unfold errAt
 have e:l.getD k zeroS=l[k]:=by simp[List.getD,List.getElem?_eq_getElem h]
 rw[e,if_pos h1]
theorem errAt_gap {l:List Sp} {k:Nat} (h:k < l.length) (h0:0 < k) (h1:spErr l[k]=0):errAt l k=gapErr l[k - 1] l[k]:=by
 unfold errAt
 have e:l.getD k zeroS=l[k]:=by simp[List.getD,List.getElem?_eq_getElem h]
 have e2:l.getD (k - 1) zeroS=l[k - 1]:=by simp[List.getD,List.getElem?_eq_getElem (by omega:k - 1 < l.length)]
 rw[e,e2,if_neg (by simpa using h1),if_neg (by omega)]
theorem rng_large {l:List Sp} (h:10 < l.length):rngErr l=4:=by rw[rngErr,if_pos h]
theorem rng_at {l:List Sp} {k:Nat} (hl:l.length<=10) (h:k < l.length) (h0:∀ x∈(errsOf l).take k,x=0) (h1:¬ errAt l k=0):rngErr l=errAt l k:=by
 rw[rngErr,if_neg (by omega)]
 have hk:k < (errsOf l).length:=by rw[errs_length];exact h
 rw[firstI_at hk h0 (by rw[errs_get];exact h1),errs_get]
theorem rng_next {l:List Sp} {k:Nat} (h:k < l.length) (h0:∀ x∈(errsOf l).take k,x=0) (h1:errAt l k=0):∀ x∈(errsOf l).take (k+1),x=0:=by
 have hk:k < (errsOf l).length:=by rw[errs_length];exact h
 exact take_zero_succ hk h0 (by rw[errs_get];exact h1)
theorem rng_all {l:List Sp} (hl:l.length<=10) (h0:∀ x∈(errsOf l).take l.length,x=0):rngErr l=0:=by
 rw[rngErr,if_neg (by omega)]
 rw[List.take_of_length_le (by rw[errs_length];exact Nat.le_refl _)] at h0
 exact firstI_zero h0
theorem gap_ne {p s:Sp} (h:p.ht=false∨s.hf=false∨0<=p.t.ord s.f):gapErr p s=7:=by
 unfold gapErr
 rw[if_pos]
 rcases h with h|h|h<;>simp[h]
theorem gap_ok {p s:Sp} (h1:p.ht=true) (h2:s.hf=true) (h:¬ 0<=p.t.ord s.f):gapErr p s=0:=by
 unfold gapErr
 rw[if_neg]
 simpa [h1,h2] using h
set_option maxHeartbeats 8000000 in
theorem CheckRange_any (A:Option Addr) (n c:Nat) (l:List Sp) (w:World) (hg:Good w) (hn:l.length=n) (hr:RdS w A l) (hs:SmallS l) (hl:n<=2097152) :
 Calls Tryz.prog 91 #[.agg #[.slice A n c]] w fun e w'=>e=.returned (.int .i64 (rngErr l))∧Ext w w':=by
 have HN:=Hy hn
 clear hn
 by_cases h10:10 < n
 ·have hR:rngErr l=4:=rng_large (by rw[HN.out];exact h10)
  have HR:=Hy hR
  clear hR
  go_enter Tryz.func91,Tryz.ntmps91
  go_wp2
  go_ret
  exact⟨ret_int HR.out.symm,Ext.au⟩
 rcases Nat.eq_zero_or_pos n with h0|h0
 ·subst h0
  have he:l=[]:=List.eq_nil_of_length_eq_zero HN.out
  have hR:rngErr l=0:=by rw[he];rfl
  have HR:=Hy hR
  clear he hR
  go_enter Tryz.func91,Tryz.ntmps91
  go_wp2
  go_loop [14] (fun i=>i=.int .i64 0) (fun i=>0)
  case atStart=>rfl
  case round =>
   subst hrel
   go_wp2
   go_ret
   exact⟨ret_int HR.out.symm,Ext.au⟩
 obtain⟨b,o,rfl,hX⟩:=hr (fun e=>by have:=HN.out;rw[e] at this;simp at this;omega)
 clear hr
 go_enter Tryz.func91,Tryz.ntmps91
 go_wp2
 go_loopw [14] (fun i wr=>∃ k:Nat,k<=n∧i=.int .i64 k∧(∀ x∈(errsOf l).take k,x=0)∧Ext (w.alloc (.cells #[.slice (some ⟨b,o,none⟩) n c] 42)) wr) (fun i _=>n - (intOf i).toNat)
 case atStart=>exact⟨0,Nat.zero_le _,rfl,by simp,Ext.refl _⟩
 case round =>
  obtain⟨k,hk,rfl,hall,hxr⟩:=hrel
  have HALL:=Hy hall
  clear hall
  have hxw:Ext w wr:=Ext.trans Ext.au hxr
  have hB:=(Blk.new w 42 #[.slice (some ⟨b,o,none⟩) n c]).ext hxr
  by_cases hlt:k < n
  ·have hk1:k < l.length:=by rw[HN.out];exact hlt
   have X:=hX.ext hxw
   have x0:=X.c0 k hk1;have x1:=X.c1 k hk1;have x2:=X.c2 k hk1;have x3:=X.c3 k hk1;have x4:=X.c4 k hk1
   have x5:=X.c5 k hk1;have x6:=X.c6 k hk1;have x7:=X.c7 k hk1;have x8:=X.c8 k hk1;have x9:=X.c9 k hk1
   have hz1:=hs l[k] (List.getElem_mem hk1)
   have hbad:¬ spErr l[k]=0->rngErr l=spErr l[k]:=fun h=>by
    have e:=errAt_bad hk1 h
    rw[rng_at (by have:=HN.out;omega) hk1 HALL.out (by rw[e];exact h),e]
   have HBAD:=Hy hbad
   have hgood:errAt l k=0->∀ x∈(errsOf l).take (k+1),x=0:=rng_next hk1 HALL.out
   have HGOOD:=Hy hgood
   have hgapb:errAt l k=7->rngErr l=7:=fun h=>by rw[rng_at (by have:=HN.out;omega) hk1 HALL.out (by rw[h];decide),h]
   have HGAPB:=Hy hgapb
   clear hbad hgood hgapb
   by_cases hk0:k=0
   ·subst hk0
    have HE:=Hy (errAt_0 hk1)
    generalize l[0]=s at *
    obtain⟨hf,ht,⟨f1,f2,f3,fa⟩,⟨t1,t2,t3,ta⟩⟩:=s
    dsimp only at x0 x1 x2 x3 x4 x5 x6 x7 x8 x9 hz1
    rw[Nat.zero_mul,Nat.add_zero] at x0 x1 x2 x3 x4 x5 x6 x7 x8 x9
    obtain⟨hz1,hz2⟩:=hz1
    go_wp2_with fail
    refine (spanFault_any ⟨hf,ht,⟨f1,f2,f3,fa⟩,⟨t1,t2,t3,ta⟩⟩ _ (hg.ext (hxw.trans Ext.au)) hz1 hz2).mono ?_
    generalize spErr ⟨hf,ht,⟨f1,f2,f3,fa⟩,⟨t1,t2,t3,ta⟩⟩=r at *
    rintro e w1 ⟨rfl,hx1⟩
    by_cases hr:r=0
    ·have HR:=Hy hr
     rw[hr]
     clear hr
     go_wp2
     go_roundw
     case rel=>exact⟨1,by omega,rfl,HGOOD.out (HE.out.trans HR.out),(hxr.trans Ext.au).trans hx1⟩
     case measure=>simp[intOf];omega
    ·go_wp2
     go_ret
     exact⟨ret_int (HBAD.out hr).symm,(hxw.trans Ext.au).trans hx1⟩
   ·obtain⟨j,rfl⟩:∃ j,k=j+1:=⟨k - 1,by omega⟩
    have hj:j < l.length:=by omega
    have HE:=Hy (errAt_gap hk1 (by omega))
    simp only[Nat.add_sub_cancel] at HE
    have y0:=X.c0 j hj;have y1:=X.c1 j hj;have y2:=X.c2 j hj;have y3:=X.c3 j hj;have y4:=X.c4 j hj
    have y5:=X.c5 j hj;have y6:=X.c6 j hj;have y7:=X.c7 j hj;have y8:=X.c8 j hj;have y9:=X.c9 j hj
    have hz3:=hs l[j] (List.getElem_mem hj)
    clear X hk0
    generalize l[j+1]=s at *
    generalize l[j]=p at *
    have q3:=fun h=>gap_ne (p:=p) (s:=s) (.inl h)
    have q4:=fun h=>gap_ne (p:=p) (s:=s) (.inr (.inl h))
    have q5:=fun h=>gap_ne (p:=p) (s:=s) (.inr (.inr h))
    have q6:=gap_ok (p:=p) (s:=s)
    obtain⟨hf,ht,⟨f1,f2,f3,fa⟩,⟨t1,t2,t3,ta⟩⟩:=s
    obtain⟨pf,pt,⟨g1,g2,g3,ga⟩,⟨u1,u2,u3,ua⟩⟩:=p
    dsimp only at x0 x1 x2 x3 x4 x5 x6 x7 x8 x9 hz1 y0 y1 y2 y3 y4 y5 y6 y7 y8 y9 hz3
    dsimp only[V4.ord] at q3 q4 q5 q6
    generalize gapErr ⟨pf,pt,⟨g1,g2,g3,ga⟩,⟨u1,u2,u3,ua⟩⟩ ⟨hf,ht,⟨f1,f2,f3,fa⟩,⟨t1,t2,t3,ta⟩⟩=G at *
    have Q3:=Hy q3
    have Q4:=Hy q4
    have Q5:=Hy q5
    have Q6:=Hy q6
    clear q3 q4 q5 q6
    obtain⟨hz1,hz2⟩:=hz1
    obtain⟨hz3,hz4⟩:=hz3
    go_wp2_with fail
    refine (spanFault_any ⟨hf,ht,⟨f1,f2,f3,fa⟩,⟨t1,t2,t3,ta⟩⟩ _ (hg.ext (hxw.trans Ext.au)) hz1 hz2).mono ?_
    generalize spErr ⟨hf,ht,⟨f1,f2,f3,fa⟩,⟨t1,t2,t3,ta⟩⟩=r at *
    rintro e w1 ⟨rfl,hx1⟩
    by_cases hr:r=0
    rotate_left
    ·go_wp2
     go_ret
     exact⟨ret_int (HBAD.out hr).symm,(hxw.trans Ext.au).trans hx1⟩
    have HG:=Hy (HE.out hr)
    rw[hr]
    clear hr
    have bS:=(Blk.new wr 147 #[.bool hf,.bool ht,.int .i64 f1,.int .i64 f2,.int .i64 f3,.string fa,.int .i64 t1,.int .i64 t2,.int .i64 t3,.string ta]).ext hx1
    have sc:=bS.cell
    have sl:=bS.lt
    have bB:=(hB.alloc _).ext hx1
    have bc:=bB.cell
    have hxa:Ext wr w1:=Ext.trans Ext.au hx1
    have hlw:=hB.lt
    have y0:=hxa.cell y0;have y1:=hxa.cell y1;have y2:=hxa.cell y2;have y3:=hxa.cell y3;have y4:=hxa.cell y4
    have y5:=hxa.cell y5;have y6:=hxa.cell y6;have y7:=hxa.cell y7;have y8:=hxa.cell y8;have y9:=hxa.cell y9
    clear x0 x1 x2 x3 x4 x5 x6 x7 x8 x9
    cases pt
    ·go_wp2
     go_ret
     exact⟨ret_int (HGAPB.out (HG.out.trans (Q3.out (by trivial)))).symm,hxw.trans Ext.au⟩
    cases hf
    ·go_wp2
     go_ret
     exact⟨ret_int (HGAPB.out (HG.out.trans (Q4.out (by trivial)))).symm,hxw.trans Ext.au⟩
    go_wp2_with fail
    refine (Order_any f1 f2 f3 u1 u2 u3 fa ua _ (hg.ext (hxw.trans Ext.au)) hz1 hz4).mono ?_
    rintro e w2 ⟨rfl,hx2⟩
    have hon:=order_neg f1 f2 f3 (bs fa) u1 u2 u3 (bs ua)
    have HON:=Hy hon
    clear hon
    have hxb:Ext w w2:=Ext.trans (hxw.trans Ext.au) hx2
    have hxc:Ext wr w2:=Ext.trans Ext.au hx2
    by_cases ho:orderL f1 f2 f3 (bs fa) u1 u2 u3 (bs ua)<=0
    ·have HO:=Hy ho
     go_wp2
     go_ret
     exact⟨ret_int (HGAPB.out (HG.out.trans (Q5.out (by rw[HON.out];have:=HO.out;omega)))).symm,hxb⟩
    ·have HO:=Hy ho
     go_wp2
     go_roundw
     case rel=>exact⟨j+1+1,by omega,by go_num,HGOOD.out (HG.out.trans (Q6.out (by trivial) (by trivial) (by rw[HON.out];have:=HO.out;omega))),hxr.trans hxc⟩
     case measure=>simp[intOf];omega
  ·obtain rfl:k=n:=by omega
   go_wp2
   go_ret
   exact⟨ret_int (rng_all (by have:=HN.out;omega) (by rw[HN.out];exact HALL.out)).symm,hxw⟩
end
section
open Go.RowKit
theorem isRow_any (s:ByteArray) (w:World) (hg:Good w) (hs:s.size<=2097152) :
 Calls Tryz.prog 163 #[.string s] w fun e w'=>e=.returned (.bool (rowL (bs s)))∧w=w':=by
 go_enter Tryz.func163,Tryz.ntmps163
 go_wp2_with (go_at_call 189;refine (contains_any 32 s _ hg hs).mono ?_;rintro e w' ⟨rfl,rfl⟩)
 go_ret
 exact⟨ret_bool (by simp[rowL]),rfl⟩
theorem parse_val {s b:ByteArray} (hb:bs b=(parseV (bs s)).1.2.2.2):(⟨(parseV (bs s)).1.2.2.2.toArray⟩:ByteArray)=b:=by rw[<-hb,mk_bs]
theorem Parse_x (s:ByteArray) (w:World) (hg:GoodN w) (hs:s.size<=2097152) :
 Calls Tryz.prog 26 #[.string s] w fun e w'=>∃ v r,pV (bs s)=(v,r)∧e=.returned (.tuple #[verV v,.int .i64 r])∧v.a.size<=s.size∧Ext w w' :=
 (Parse_any s w hg hs).mono fun _ _ ⟨b,hp,hb,hz,hx⟩=>by
   rw[bs_length] at hz
   refine⟨⟨(parseV (bs s)).1.1,(parseV (bs s)).1.2.1,(parseV (bs s)).1.2.2.1,b⟩,(parseV (bs s)).2,?_,hp,hz,hx⟩
   unfold pV
   rw[parse_val hb]
theorem Read_x (s:ByteArray) (w:World) (hg:GoodN w) (hs:s.size<=2097152) :
 Calls Tryz.prog 27 #[.string s] w fun e w'=>∃ v r,pV (bs s)=(v,r)∧e=.returned (.tuple #[verV v,.int .i64 r])∧v.a.size<=s.size∧Ext w w' :=
 (ReadVersion_any s w hg hs).mono fun _ _ ⟨b,hp,hb,hz,hx⟩=>by
   rw[bs_length] at hz
   refine⟨⟨(parseV (bs s)).1.1,(parseV (bs s)).1.2.1,(parseV (bs s)).1.2.2.1,b⟩,(parseV (bs s)).2,?_,hp,hz,hx⟩
   unfold pV
   rw[parse_val hb]
theorem Next_x (v:V4) (part:Int) (w:World) (hg:Good w) (hs:v.a.size<=2097152) :
 Calls Tryz.prog 14 #[verV v,.int .i64 part] w fun e w'=>∃ x y z r,nV v part=(⟨x,y,z,⟨#[]⟩⟩,r)∧e=.returned (.tuple #[verV ⟨x,y,z,⟨#[]⟩⟩,.int .i64 r])∧Ext w w' :=
 (Next_any v.a1 v.a2 v.a3 part v.a w hg hs).mono fun _ _ ⟨h,hx⟩=>⟨_,_,_,_,rfl,h,hx⟩
theorem NextOf_x (v:V4) (part:Int) (w:World) (hg:Good w) (hs:v.a.size<=2097152) :
 Calls Tryz.prog 15 #[verV v,.int .i64 part] w fun e w'=>∃ x y z r,nV v part=(⟨x,y,z,⟨#[]⟩⟩,r)∧e=.returned (.tuple #[verV ⟨x,y,z,⟨#[]⟩⟩,.int .i64 r])∧Ext w w' :=
 (NextOf_any v.a1 v.a2 v.a3 part v.a w hg hs).mono fun _ _ ⟨h,hx⟩=>⟨_,_,_,_,rfl,h,hx⟩
set_option maxHeartbeats 1000000 in
theorem wrong_any (s:ByteArray) (w:World) (hg:GoodN w) (hs:s.size<=2097152) :
 Calls Tryz.prog 95 #[.string s] w fun e w'=>e=.returned (.bool (wrongL (bs s)))∧Ext w w':=by
 go_enter Tryz.func95,Tryz.ntmps95
 go_wp2_with fail
 refine (Parse_x s _ hg hs).mono ?_
 rintro e w1 ⟨⟨x,y,z,b⟩,r,hp,rfl,_,hx1⟩
 have HP:=Hy hp
 clear hp
 by_cases h8:r=8
 ·subst h8
  go_wp2
  go_ret
  exact⟨ret_bool (by unfold wrongL;rw[HP.out];rfl),hx1.alloc _⟩
 ·have H8:=Hy h8
  have hb:(r==8)=false:=by rw[beq_eq_false_iff_ne];exact h8
  go_wp2
  go_ret
  exact⟨ret_bool (by unfold wrongL;rw[HP.out];exact (decide_eq_false H8.out).symm),hx1.alloc _⟩
end
section
open Go.RowKit
abbrev itV (sg:UInt8) (a b:ByteArray):Value:=.agg #[.int .u8 sg.toNat,.string a,.string b]
def ItemPost (s:ByteArray) (w:World) (E:Ending) (w':World):Prop :=
 ∃ (sg:UInt8) (a b:ByteArray) (ok:Bool),itemL (bs s)=(⟨sg,bs a,bs b⟩,ok)∧E=.returned (.tuple #[itV sg a b,.bool ok])∧a.size<=s.size∧b.size<=s.size∧Ext w w'
theorem item_star {l:Str} (h:l=[42]):itemL l=(⟨42,[],[]⟩,true):=by rw[itemL,if_pos h]
theorem item_two {l a b:Str} (h0:¬ l=[42]) (h1:Lib.hasPrefix l [62,61]=true) (h2:cutC 32 (l.drop 2)=(a,b,true)) :
 itemL l=(⟨98,a,Lib.trimPrefix b [60]⟩,Lib.hasPrefix b [60]&&rowL a&&rowL (Lib.trimPrefix b [60])):=by
 rw[itemL,if_neg h0,if_pos h1,h2,if_pos rfl]
theorem item_from {l a b:Str} (h0:¬ l=[42]) (h1:Lib.hasPrefix l [62,61]=true) (h2:cutC 32 (l.drop 2)=(a,b,false)):itemL l=(⟨62,l.drop 2,[]⟩,rowL (l.drop 2)):=by
 rw[itemL,if_neg h0,if_pos h1,h2,if_neg (by simp)]
theorem item_sign {l:Str} (h0:¬ l=[42]) (h1:¬ Lib.hasPrefix l [62,61]=true) (h2:(!l.isEmpty&&[60,61,94,126].contains (l.headD 0))=true):itemL l=(⟨l.headD 0,l.drop 1,[]⟩,rowL (l.drop 1)):=by
 rw[itemL,if_neg h0,if_neg h1,if_pos h2]
theorem item_else {l:Str} (h0:¬ l=[42]) (h1:¬ Lib.hasPrefix l [62,61]=true) (h2:¬ (!l.isEmpty&&[60,61,94,126].contains (l.headD 0))=true):itemL l=(⟨94,l,[]⟩,rowL l):=by
 rw[itemL,if_neg h0,if_neg h1,if_neg h2]
theorem trimPrefix_size (b:ByteArray) (p:Str):(⟨(Lib.trimPrefix (bs b) p).toArray⟩:ByteArray).size<=b.size:=by
 have:=Lib.trimPrefix_le (bs b) p
 rw[bs_length] at this
 rw[<-bs_length,bs_mk]
 exact this
theorem trim_hit {l p:Str} (h:Lib.hasPrefix l p=true):Lib.trimPrefix l p=l.drop p.length:=by rw[Lib.trimPrefix,if_pos h]
set_option maxHeartbeats 8000000 in
theorem itemOf_any (s:ByteArray) (w:World) (hg:Good w) (hs:s.size<=2097152) :
 Calls Tryz.prog 94 #[.string s] w (ItemPost s w):=by
 go_enter Tryz.func94,Tryz.ntmps94
 by_cases h0:bs s=[42]
 ·have he:(s.toList==[42])=true:=by rw[lit_beq,beq_iff_eq];exact h0
  have HI:=Hy (item_star h0)
  clear h0
  go_wp2
  refine bodyPost_ret (v:=.tuple #[itV 42 ⟨#[]⟩ ⟨#[]⟩,.bool true]) (by simp[results,Tryz.results94,go_sem]) rfl ⟨42,⟨#[]⟩,⟨#[]⟩,true,HI.out,rfl,Nat.zero_le _,Nat.zero_le _,Ext.au⟩
 have he:(s.toList==[42])=false:=by rw[lit_beq,beq_eq_false_iff_ne];exact h0
 have H0:=Hy h0
 clear h0
 go_wp2_with fail
 refine (cutPrefix_any s ⟨#[62,61]⟩ _).mono ?_
 rintro e w' ⟨rfl,rfl⟩
 by_cases h1:Lib.hasPrefix (bs s) [62,61]=true
 ·have h1':(bs ⟨#[62,61]⟩).isPrefixOf (bs s)=true:=h1
  rw[h1']
  have htp:bs (⟨(Lib.trimPrefix (bs s) (bs ⟨#[62,61]⟩)).toArray⟩:ByteArray)=(bs s).drop 2:=by rw[bs_mk];exact trim_hit h1
  have hsz:(⟨(Lib.trimPrefix (bs s) (bs ⟨#[62,61]⟩)).toArray⟩:ByteArray).size<=s.size:=trimPrefix_size s _
  dsimp only[S]
  generalize (⟨(Lib.trimPrefix (bs s) (bs ⟨#[62,61]⟩)).toArray⟩:ByteArray)=fr at *
  have HTP:=Hy htp
  have H1:=Hy h1
  clear h1 h1' htp
  go_wp2_with fail
  refine (cut_ex 32 fr _ (hg.ext Ext.au) (by omega)).mono ?_
  rintro e w1 ⟨a,b,fl,rfl,hcut,hsa,hsb,hx1⟩
  rw[HTP.out] at hcut
  have hx:Ext w w1:=Ext.trans Ext.au hx1
  have bR:=((Blk.new w 152 #[.int .u8 0,.string ⟨#[]⟩,.string ⟨#[]⟩]).alloc (.cells #[.int .u8 62,.string fr,.string ⟨#[]⟩] 152)).ext hx1
  have bI:=(Blk.new (w.alloc (.cells #[.int .u8 0,.string ⟨#[]⟩,.string ⟨#[]⟩] 152)) 152 #[.int .u8 62,.string fr,.string ⟨#[]⟩]).ext hx1
  rw[World.size_alloc] at bI
  have cR:=bR.cell;have fR:=bR.free;have zR:=bR.lt
  have cI:=bI.cell;have zI:=bI.lt
  clear hx1
  cases fl
  ·have HI:=Hy (item_from H0.out H1.out hcut)
   rw[<-HTP.out] at HI
   clear hcut
   go_wp2_with fail
   refine wp_region_ext_tail 4 (by kernel_rfl) (by kernel_rfl) ?_
   simp only[List.take_succ_cons,List.take_zero,List.drop_succ_cons,List.drop_zero]
   repeat (first|go_big_quiet_skip|(refine wpQuiet_step (fun K hK=>?_);go_simp;first|(refine hK _ ?_;clear hK K)|(apply Exists.intro;refine⟨fun wq hwq=>?_,hK _ ?_⟩;(obtain⟨hqc,hqf⟩:=hwq.cells;have hqs:=hwq.size;(try go_simp);first|rfl|((first|rw[if_neg (by omega)]|rw[if_pos (by omega)]);(try go_simp);rfl)|((go_at_call 163;exact (isRow_any fr _ ((hg.ext hx).ext hwq) (by omega)).mono (fun e w'' h=>⟨h.1,h.2 ▸ hwq⟩))));clear hK K)))
   refine wpQuiet_nil ?_
   intro wN hxN
   obtain⟨hcN,hfN⟩:=hxN.cells
   have hsN:=hxN.size
   have bRN:=bR.ext hxN
   have cRN:=bRN.cell;have fRN:=bRN.free;have zRN:=bRN.lt
   go_wp2
   refine bodyPost_ret (v:=.tuple #[itV 62 fr ⟨#[]⟩,.bool (rowL (bs fr))]) (by simp[results,Tryz.results94,go_sem,cRN]) rfl ⟨62,fr,⟨#[]⟩,_,HI.out,rfl,hsz,Nat.zero_le _,?_⟩
   have hxWN:=hx.trans hxN
   exact Ext.ad
  ·have HI:=Hy (item_two H0.out H1.out hcut)
   clear hcut
   go_wp2_with fail
   refine (cutPrefix_any b ⟨#[60]⟩ _).mono ?_
   rintro e w' ⟨rfl,rfl⟩
   have hto:bs (⟨(Lib.trimPrefix (bs b) (bs ⟨#[60]⟩)).toArray⟩:ByteArray)=Lib.trimPrefix (bs b) [60]:=by rw[bs_mk]
   have hsz2:(⟨(Lib.trimPrefix (bs b) (bs ⟨#[60]⟩)).toArray⟩:ByteArray).size<=b.size:=trimPrefix_size b _
   dsimp only[S]
   have hle:(bs ⟨#[60]⟩).isPrefixOf (bs b)=Lib.hasPrefix (bs b) [60]:=rfl
   rw[hle]
   generalize (⟨(Lib.trimPrefix (bs b) (bs ⟨#[60]⟩)).toArray⟩:ByteArray)=tb at *
   rw[<-hto] at HI
   clear hto hle
   have HIX:Hid (∃ ok,itemL (bs s)=(⟨98,bs a,bs tb⟩,ok)∧ok=(Lib.hasPrefix (bs b) [60]&&rowL (bs a)&&rowL (bs tb))):=Hy ⟨_,HI.out,rfl⟩
   clear HI
   cases hp:Lib.hasPrefix (bs b) [60]
   ·rw[hp] at HIX
    clear hp
    go_wp2
    refine bodyPost_ret (v:=.tuple #[itV 98 a tb,.bool false]) (by simp[results,Tryz.results94,go_sem,cR]) rfl ⟨98,a,tb,false,?_,rfl,by omega,by omega,?_⟩
    ·obtain⟨ok,h1,h2⟩:=HIX.out
     rw[h1,h2];rfl
    ·exact Ext.ad
   ·rw[hp] at HIX
    clear hp
    go_wp2_with fail
    refine (isRow_any a _ (hg.ext hx) (by omega)).mono ?_
    rintro e w' ⟨rfl,rfl⟩
    cases hp:rowL (bs a)
    ·rw[hp] at HIX
     clear hp
     go_wp2
     refine bodyPost_ret (v:=.tuple #[itV 98 a tb,.bool false]) (by simp[results,Tryz.results94,go_sem,cR]) rfl ⟨98,a,tb,false,?_,rfl,by omega,by omega,?_⟩
     ·obtain⟨ok,h1,h2⟩:=HIX.out
      rw[h1,h2];rfl
     ·exact Ext.ad
    ·rw[hp] at HIX
     clear hp
     go_wp2_with fail
     refine (isRow_any tb _ (hg.ext hx) (by omega)).mono ?_
     rintro e w' ⟨rfl,rfl⟩
     go_wp2
     refine bodyPost_ret (v:=.tuple #[itV 98 a tb,.bool (rowL (bs tb))]) (by simp[results,Tryz.results94,go_sem,cR]) rfl ⟨98,a,tb,rowL (bs tb),?_,rfl,by omega,by omega,?_⟩
     ·obtain⟨ok,h1,h2⟩:=HIX.out
      rw[h1,h2];rfl
     ·exact Ext.ad
 have h1f:(bs ⟨#[62,61]⟩).isPrefixOf (bs s)=false:=by
  have:Lib.hasPrefix (bs s) [62,61]=false:=by simpa using h1
  exact this
 rw[h1f]
 have H1:=Hy h1
 clear h1 h1f
 have tail:∀ (sg:UInt8) (x:ByteArray),x.size<=s.size->itemL (bs s)=(⟨sg,bs x,[]⟩,rowL (bs x))->True:=fun _ _ _ _=>trivial
 rcases Nat.eq_zero_or_pos s.size with hz|hz
 ·have hi:=emp_bool hz
  have HI:=Hy (item_else H0.out H1.out (by rw[bs_nil hz];decide))
  have bR:=(Blk.new w 152 #[.int .u8 0,.string ⟨#[]⟩,.string ⟨#[]⟩]).alloc (.cells #[.int .u8 94,.string s,.string ⟨#[]⟩] 152)
  go_wp2_with fail
  refine wp_region_ext_tail 4 (by kernel_rfl) (by kernel_rfl) ?_
  simp only[List.take_succ_cons,List.take_zero,List.drop_succ_cons,List.drop_zero]
  repeat (first|go_big_quiet_skip|(refine wpQuiet_step (fun K hK=>?_);go_simp;first|(refine hK _ ?_;clear hK K)|(apply Exists.intro;refine⟨fun wq hwq=>?_,hK _ ?_⟩;(obtain⟨hqc,hqf⟩:=hwq.cells;have hqs:=hwq.size;(try go_simp);first|rfl|((first|rw[if_neg (by omega)]|rw[if_pos (by omega)]);(try go_simp);rfl)|((go_at_call 163;exact (isRow_any s _ (hg.ext (Ext.trans Ext.au hwq)) (by omega)).mono (fun e w'' h=>⟨h.1,h.2 ▸ hwq⟩))));clear hK K)))
  refine wpQuiet_nil ?_
  intro wN hxN
  obtain⟨hcN,hfN⟩:=hxN.cells
  have hsN:=hxN.size
  have bRN:=bR.ext hxN
  have cRN:=bRN.cell;have fRN:=bRN.free;have zRN:=bRN.lt
  go_wp2
  refine bodyPost_ret (v:=.tuple #[itV 94 s ⟨#[]⟩,.bool (rowL (bs s))]) (by simp[results,Tryz.results94,go_sem,cRN]) rfl ⟨94,s,⟨#[]⟩,_,HI.out,rfl,Nat.le_refl _,Nat.zero_le _,?_⟩
  have hxWN:Ext w wN:=Ext.trans Ext.au hxN
  exact Ext.ad
 have hi:=nemp_bool hz
 have hne:(bs s).isEmpty=false:=by rw[ByteArray.toList_eq] at hi;exact hi
 have HNE:=Hy hne
 have HHD:=Hy (head_bs s hz)
 clear hne tail
 go_wp2_with fail
 refine (indexByte_any ⟨#[60,61,94,126]⟩ s[0] _).mono ?_
 rintro e w' ⟨rfl,rfl⟩
 have bR:=(Blk.new w 152 #[.int .u8 0,.string ⟨#[]⟩,.string ⟨#[]⟩]).alloc (.cells #[.int .u8 94,.string s,.string ⟨#[]⟩] 152)
 have bI:=Blk.new (w.alloc (.cells #[.int .u8 0,.string ⟨#[]⟩,.string ⟨#[]⟩] 152)) 152 #[.int .u8 94,.string s,.string ⟨#[]⟩]
 rw[World.size_alloc] at bI
 cases hc:([60,61,94,126]:Str).contains s[0]
 ·have hge:¬ 0<=Lib.indexByte (bs ⟨#[60,61,94,126]⟩) s[0]:=by have:=indexByte_out hc;show ¬ 0<=Lib.indexByte [60,61,94,126] s[0];omega
  have HI:=Hy (item_else H0.out H1.out (by rw[HNE.out,HHD.out,hc];decide))
  clear hc
  go_wp2_with fail
  refine wp_region_ext_tail 4 (by kernel_rfl) (by kernel_rfl) ?_
  simp only[List.take_succ_cons,List.take_zero,List.drop_succ_cons,List.drop_zero]
  repeat (first|go_big_quiet_skip|(refine wpQuiet_step (fun K hK=>?_);go_simp;first|(refine hK _ ?_;clear hK K)|(apply Exists.intro;refine⟨fun wq hwq=>?_,hK _ ?_⟩;(obtain⟨hqc,hqf⟩:=hwq.cells;have hqs:=hwq.size;(try go_simp);first|rfl|((first|rw[if_neg (by omega)]|rw[if_pos (by omega)]);(try go_simp);rfl)|((go_at_call 163;exact (isRow_any s _ (hg.ext (Ext.trans Ext.au hwq)) (by omega)).mono (fun e w'' h=>⟨h.1,h.2 ▸ hwq⟩))));clear hK K)))
  refine wpQuiet_nil ?_
  intro wN hxN
  obtain⟨hcN,hfN⟩:=hxN.cells
  have hsN:=hxN.size
  have bRN:=bR.ext hxN
  have cRN:=bRN.cell;have fRN:=bRN.free;have zRN:=bRN.lt
  go_wp2
  refine bodyPost_ret (v:=.tuple #[itV 94 s ⟨#[]⟩,.bool (rowL (bs s))]) (by simp[results,Tryz.results94,go_sem,cRN]) rfl ⟨94,s,⟨#[]⟩,_,HI.out,rfl,Nat.le_refl _,Nat.zero_le _,?_⟩
  have hxWN:Ext w wN:=Ext.trans Ext.au hxN
  exact Ext.ad
 ·have hge:0<=Lib.indexByte (bs ⟨#[60,61,94,126]⟩) s[0]:=by have:=indexByte_in hc;show 0<=Lib.indexByte [60,61,94,126] s[0];omega
  have hi2:=item_sign H0.out H1.out (by rw[HNE.out,HHD.out,hc];rfl)
  rw[HHD.out] at hi2
  have hd:bs (s.extract 1 s.size)=(bs s).drop 1:=Lib.extract_to_end s 1
  rw[<-hd] at hi2
  have HI:=Hy hi2
  have hsz:(s.extract 1 s.size).size<=s.size:=by simp
  clear hc hi2 hd
  go_wp2_with fail
  refine wp_region_ext_tail 5 (by kernel_rfl) (by kernel_rfl) ?_
  simp only[List.take_succ_cons,List.take_zero,List.drop_succ_cons,List.drop_zero]
  repeat (first|go_big_quiet_skip|(refine wpQuiet_step (fun K hK=>?_);go_simp;first|(refine hK _ ?_;clear hK K)|(apply Exists.intro;refine⟨fun wq hwq=>?_,hK _ ?_⟩;(obtain⟨hqc,hqf⟩:=hwq.cells;have hqs:=hwq.size;(try go_simp);first|rfl|((first|rw[if_neg (by omega)]|rw[if_pos (by omega)]);(try go_simp);rfl)|((fail)));clear hK K)))
  refine wpQuiet_nil ?_
  intro wN hxN
  obtain⟨hcN,hfN⟩:=hxN.cells
  have hsN:=hxN.size
  have bRN:=bR.ext hxN
  have bIN:=bI.ext hxN
  have cRN:=bRN.cell;have fRN:=bRN.free;have zRN:=bRN.lt
  have cIN:=bIN.cell;have fIN:=bIN.free;have zIN:=bIN.lt
  have hxWN:Ext w wN:=Ext.trans Ext.au hxN
  go_wp2_with fail
  have hW:Ext w (((wN.setCell ⟨w.heap.size+1,0,none⟩ (.int .u8 s[0].toNat)).setCell ⟨w.heap.size+1,1,none⟩ (.string (s.extract 1 s.size))).setCell ⟨w.heap.size+1,2,none⟩ (.string ⟨#[]⟩)):=Ext.ad
  have bI2:=((bIN.set 0 (.int .u8 s[0].toNat)).set 1 (.string (s.extract 1 s.size))).set 2 (.string ⟨#[]⟩)
  have bR2:=((bRN.far (p:=⟨w.heap.size+1,0,none⟩) (by simp) (.int .u8 s[0].toNat)).far (p:=⟨w.heap.size+1,1,none⟩) (by simp) (.string (s.extract 1 s.size))).far (p:=⟨w.heap.size+1,2,none⟩) (by simp) (.string ⟨#[]⟩)
  clear bRN bIN cRN fRN zRN cIN fIN zIN hxN hcN hfN hsN hxWN bR bI
  generalize (((wN.setCell ⟨w.heap.size+1,0,none⟩ (.int .u8 s[0].toNat)).setCell ⟨w.heap.size+1,1,none⟩ (.string (s.extract 1 s.size))).setCell ⟨w.heap.size+1,2,none⟩ (.string ⟨#[]⟩))=W2 at *
  have cI2:=bI2.cell
  have zI2:=bI2.lt
  refine wp_region_ext_tail 4 (by kernel_rfl) (by kernel_rfl) ?_
  simp only[List.take_succ_cons,List.take_zero,List.drop_succ_cons,List.drop_zero]
  repeat (first|go_big_quiet_skip|(refine wpQuiet_step (fun K hK=>?_);go_simp;first|(refine hK _ ?_;clear hK K)|(apply Exists.intro;refine⟨fun wq hwq=>?_,hK _ ?_⟩;(obtain⟨hqc,hqf⟩:=hwq.cells;have hqs:=hwq.size;(try go_simp);first|rfl|((first|rw[if_neg (by omega)]|rw[if_pos (by omega)]);(try go_simp);rfl)|((go_at_call 163;exact (isRow_any (s.extract 1 s.size) _ ((hg.ext hW).ext hwq) (by omega)).mono (fun e w'' h=>⟨h.1,h.2 ▸ hwq⟩))));clear hK K)))
  refine wpQuiet_nil ?_
  intro wM hxM
  obtain⟨hcM,hfM⟩:=hxM.cells
  have hsM:=hxM.size
  have hxWM:=hW.trans hxM
  have bRM:=bR2.ext hxM
  have cRM:=bRM.cell;have fRM:=bRM.free;have zRM:=bRM.lt
  go_wp2
  refine bodyPost_ret (v:=.tuple #[itV s[0] (s.extract 1 s.size) ⟨#[]⟩,.bool (rowL (bs (s.extract 1 s.size)))]) (by simp[results,Tryz.results94,go_sem,cRM]) rfl ⟨s[0],s.extract 1 s.size,⟨#[]⟩,_,HI.out,rfl,hsz,Nat.zero_le _,?_⟩
  exact Ext.ad
end
section
open Go.RowKit
theorem splitK_le (sep:Str):∀ (k:Nat) (l p:Str),p∈Lib.splitK sep 0 k l->p.length<=l.length
 | 0,l,p,h=>by
   rw[Lib.splitK,List.mem_singleton] at h
   rw[h];exact Nat.le_refl _
 | k+1,l,p,h=>by
   unfold Lib.splitK at h
   split at h
   ·rw[List.mem_singleton] at h
    rw[h];exact Nat.le_refl _
   ·rcases List.mem_cons.1 h with e|e
    ·rw[e,List.length_take];omega
    ·have:=splitK_le sep k _ p e
     rw[List.length_drop] at this
     omega
theorem split_g (s sep:ByteArray) (w:World) (hg:Good w) (hs:s.size<=2097152) (hsep:1<=sep.size) :
 Calls Tryz.prog 71 #[.string s,.string sep] w fun e w'=>∃ (b:Nat) (xs:List ByteArray),
  e=.returned (.slice (some ⟨b,0,none⟩) xs.length xs.length)∧Strs w' b xs∧xs.map bs=Lib.split (bs s) (bs sep)∧0 < xs.length∧xs.length<=s.size+1∧(∀ x∈xs,x.size<=s.size)∧Ext w w':=by
 obtain⟨m,hm⟩:=hg.maxLen
 refine (Tryz.strings_Split s sep m w (by omega) hm hsep).mono ?_
 rintro e w' ⟨rfl,rfl⟩
 have hlen:(Lib.splitB sep 0 (Lib.countB s sep) s).length=Lib.countB s sep+1:=Lib.splitB_all sep hsep 0 _ s rfl
 have hle:=Lib.countB_le sep hsep s.size s (Nat.le_refl _)
 have hmap:(Lib.splitB sep 0 (Lib.countB s sep) s).map bs=Lib.split (bs s) (bs sep):=Lib.splitB_data sep 0 _ s
 refine⟨w.heap.size,_,by rw[hlen],⟨by simp,?_⟩,hmap,by omega,by omega,fun x hx=>?_,(Ext.refl w).alloc _⟩
 ·intro k hk
  rw[World.cell?_alloc_at _ _ _ _ rfl]
  simp[hk]
 ·rw[<-bs_length,<-bs_length s]
  exact splitK_le (bs sep) _ _ _ (by
   have:bs x∈(Lib.splitB sep 0 (Lib.countB s sep) s).map bs:=List.mem_map.2 ⟨x,hx,rfl⟩
   rw[hmap] at this
   exact this)
theorem flat_take_succ {α β:Type} (f:α->List β) (l:List α) (k:Nat) (h:k < l.length):(l.take k).flatMap f++f l[k]=(l.take (k+1)).flatMap f:=by
 rw[List.take_succ_eq_append_getElem h,List.flatMap_append]
 simp
theorem flat_get {α β:Type} {f:α->List β} {m:Nat} (hf:∀ x,(f x).length=m):∀ (l:List α) (k j:Nat) (h:k < l.length),j < m->(l.flatMap f)[k * m+j]?=(f l[k])[j]?
 | x::l,0,j,_,hj=>by
   rw[List.flatMap_cons,Nat.zero_mul,Nat.zero_add,List.getElem?_append_left (by rw[hf];exact hj)]
   rfl
 | x::l,k+1,j,h,hj=>by
   rw[List.flatMap_cons,List.getElem?_append_right (by rw[hf,Nat.add_mul];omega),hf]
   rw[show (k+1) * m+j - m=k * m+j by rw[Nat.add_mul];omega]
   exact flat_get hf l k j (by simpa using h) hj
def itC (it:It):List Value:=[.int .u8 it.sign.toNat,S it.first,S it.last]
def spC (s:Sp):List Value:=[.bool s.hf,.bool s.ht,.int .i64 s.f.a1,.int .i64 s.f.a2,.int .i64 s.f.a3,.string s.f.a,.int .i64 s.t.a1,.int .i64 s.t.a2,.int .i64 s.t.a3,.string s.t.a]
theorem spC_length (s:Sp):(spC s).length=10:=rfl
theorem rds_own {w:World} {B n:Nat} {v:Value} {l:List Sp} (h:w.ownsRow B 147 10 v n (l.flatMap spC)) (hn:l.length=n):∃ A c,v=.slice A n c∧RdS w A l:=by
 rcases Nat.eq_zero_or_pos n with h0|h0
 ·subst h0
  have he:l=[]:=List.eq_nil_of_length_eq_zero hn
  rcases h.2 with ⟨rfl,_⟩|⟨g,cap,cur,rfl,_⟩
  ·exact⟨none,0,rfl,fun e=>absurd he e⟩
  ·exact⟨_,_,rfl,fun e=>absurd he e⟩
 ·obtain⟨g,c,rfl,hlt,hB,hc,hcell⟩:=own_form h h0
  refine⟨_,_,rfl,fun _=>⟨g,0,rfl,?_⟩⟩
  have hx:∀ k (h:k < l.length) (j:Nat) (u:Value),(spC l[k])[j]?=some u->w.cell? ⟨g,0+k * 10+j,none⟩=some u:=fun k hk j u hu=>by
   have hj:j < 10:=by
    rcases Nat.lt_or_ge j 10 with h|h
    ·exact h
    ·rw[List.getElem?_eq_none (by rw[spC_length];exact h)] at hu;cases hu
   rw[Nat.zero_add]
   exact hcell _ u (by rw[flat_get spC_length l k j hk hj];exact hu)
  exact⟨fun k hk=>hx k hk 0 _ rfl,fun k hk=>hx k hk 1 _ rfl,fun k hk=>hx k hk 2 _ rfl,fun k hk=>hx k hk 3 _ rfl,fun k hk=>hx k hk 4 _ rfl,fun k hk=>hx k hk 5 _ rfl,fun k hk=>hx k hk 6 _ rfl,
   fun k hk=>hx k hk 7 _ rfl,fun k hk=>hx k hk 8 _ rfl,fun k hk=>hx k hk 9 _ rfl⟩
theorem info_item:(Tryz.prog.info? 152).map (fun i=>(i.zero,i.size,i.bytes))=some (some (.agg #[.int .u8 0,.string ⟨#[]⟩,.string ⟨#[]⟩]),3,40):=by kernel_rfl
theorem info_span:(Tryz.prog.info? 147).map (fun i=>(i.zero,i.size,i.bytes))=some (some (.agg #[.bool false,.bool false,.int .i64 0,.int .i64 0,.int .i64 0,.string ⟨#[]⟩,.int .i64 0,.int .i64 0,.int .i64 0,.string ⟨#[]⟩]),10,88):=by kernel_rfl
def RangePost (q:List Sp × Int) (w:World) (E:Ending) (w':World):Prop :=
 ∃ A c,E=.returned (.tuple #[.agg #[.slice A q.1.length c],.int .i64 q.2])∧RdS w' A q.1∧SmallS q.1∧Ext w w'
theorem range_none {r:Int} {w w':World} (hx:Ext w w'):RangePost ([],r) w (.returned (.tuple #[.agg #[.slice none 0 0],.int .i64 r])) w' :=
 ⟨none,0,rfl,(fun h=>absurd rfl h),(fun _ h=>by cases h),hx⟩
def RdP (P:Nat->Prop) (w:World) (A:Option Addr) (l:List Sp):Prop:=l≠[]->∃ b i,A=some ⟨b,i,none⟩∧P b∧SpS w b i l
theorem RdP.rd {P:Nat->Prop} {w:World} {A:Option Addr} {l:List Sp} (h:RdP P w A l):RdS w A l:=fun hn=>by
 obtain⟨b,i,e,_,k⟩:=h hn
 exact⟨b,i,e,k⟩
theorem rdp_own {w:World} {B n:Nat} {v:Value} {l:List Sp} (h:w.ownsRow B 147 10 v n (l.flatMap spC)) (hn:l.length=n):∃ A c,v=.slice A n c∧RdP (fun b=>B<=b) w A l:=by
 obtain⟨A,c,e,hr⟩:=rds_own h hn
 refine⟨A,c,e,fun hne=>?_⟩
 obtain⟨b,o,hA,hs⟩:=hr hne
 obtain⟨g,c',e2,_,hB,_⟩:=own_form h (by rw[<-hn];exact List.length_pos_iff.2 hne)
 rw[e,hA] at e2
 injection e2 with e2
 injection e2 with e2
 injection e2 with e2
 subst e2
 exact⟨b,o,hA,hB,hs⟩
def RangePostB (q:List Sp × Int) (w:World) (E:Ending) (w':World):Prop :=
 ∃ A c,E=.returned (.tuple #[.agg #[.slice A q.1.length c],.int .i64 q.2])∧RdP (fun b=>w.heap.size<=b) w' A q.1∧SmallS q.1∧Ext w w'
theorem range_noneB {r:Int} {w w':World} (hx:Ext w w'):RangePostB ([],r) w (.returned (.tuple #[.agg #[.slice none 0 0],.int .i64 r])) w' :=
 ⟨none,0,rfl,(fun h=>absurd rfl h),(fun _ h=>by cases h),hx⟩
theorem RangePostB.weak {q:List Sp × Int} {w w':World} {E:Ending} (h:RangePostB q w E w'):RangePost q w E w':=by
 obtain⟨A,c,e,hr,hs,hx⟩:=h
 exact⟨A,c,e,hr.rd,hs,hx⟩
theorem item_len (l:Str):(itemL l).1.first.length<=l.length∧(itemL l).1.last.length<=l.length:=by
 have hc:=cutC_size 32 (l.drop 2)
 have ht:=Lib.trimPrefix_le (cutC 32 (l.drop 2)).2.1 [60]
 have hd:(l.drop 2).length<=l.length:=by rw[List.length_drop];omega
 have hd1:(l.drop 1).length<=l.length:=by rw[List.length_drop];omega
 unfold itemL
 split
 ·exact⟨Nat.zero_le _,Nat.zero_le _⟩
 ·split
  ·split
   ·exact⟨by dsimp only;omega,by dsimp only;omega⟩
   ·exact⟨hd,Nat.zero_le _⟩
  ·split
   ·exact⟨hd1,Nat.zero_le _⟩
   ·exact⟨Nat.le_refl _,Nat.zero_le _⟩
def spO (p:ByteArray):Sp × Int:=spanL (itemL (bs p)).1
theorem parse_large {s:Str} (h:1000 < s.length):parseR s=([],4):=by rw[parseR,if_pos h]
theorem parse_none {s:Str} (h1:¬ 1000 < s.length) (h:s=[110,111,110,101]):parseR s=([],0):=by rw[parseR,if_neg h1,if_pos h]
theorem parse_syn {s:Str} {xs:List ByteArray} (h1:¬ 1000 < s.length) (h2:¬ s=[110,111,110,101]) (hx:xs.map bs=Lib.split s [44,32]) {k:Nat} (hk:k < xs.length) (hs:synL (bs xs[k])=true):parseR s=([],8):=by
 rw[parseR,if_neg h1,if_neg h2,if_pos]
 rw[<-hx]
 exact List.any_eq_true.2 ⟨bs xs[k],List.mem_map.2 ⟨_,List.getElem_mem hk,rfl⟩,hs⟩
theorem parse_spans {s:Str} {xs:List ByteArray} (h1:¬ 1000 < s.length) (h2:¬ s=[110,111,110,101]) (hx:xs.map bs=Lib.split s [44,32]) (hs:∀ x∈xs,synL (bs x)=false):parseR s=spansOf (xs.map spO):=by
 rw[parseR,if_neg h1,if_neg h2,if_neg,<-hx,List.map_map]
 ·rfl
 ·rw[<-hx]
  intro h
  obtain⟨p,hp,hq⟩:=List.any_eq_true.1 h
  obtain⟨x,hxm,rfl⟩:=List.mem_map.1 hp
  rw[hs x hxm] at hq
  cases hq
theorem spans_err {q:List (Sp × Int)} {k:Nat} (hk:k < q.length) (h0:∀ x∈q.take k,x.2=0) (h:¬ q[k].2=0):spansOf q=([],q[k].2):=by
 have e:firstI (q.map (·.2))=q[k].2:=by
  have:=firstI_at (l:=q.map (·.2)) (k:=k) (by simpa using hk) (fun x hx=>by
   rw[<-List.map_take] at hx
   obtain⟨y,hy,rfl⟩:=List.mem_map.1 hx
   exact h0 y hy) (by simpa using h)
  simpa using this
 unfold spansOf
 rw[e,if_pos h]
theorem spans_rng {q:List (Sp × Int)} (h0:∀ x∈q,x.2=0) (h:¬ rngErr (q.map (·.1))=0):spansOf q=([],rngErr (q.map (·.1))):=by
 have e:firstI (q.map (·.2))=0:=firstI_zero fun x hx=>by
  obtain⟨y,hy,rfl⟩:=List.mem_map.1 hx
  exact h0 y hy
 unfold spansOf
 rw[e,if_neg (by decide),if_pos h]
theorem spans_ok {q:List (Sp × Int)} (h0:∀ x∈q,x.2=0) (h:rngErr (q.map (·.1))=0):spansOf q=(q.map (·.1),0):=by
 have e:firstI (q.map (·.2))=0:=firstI_zero fun x hx=>by
  obtain⟨y,hy,rfl⟩:=List.mem_map.1 hx
  exact h0 y hy
 unfold spansOf
 rw[e,if_neg (by decide),if_neg (by simpa using h)]
def Fine (x:Sp × Int):Prop:=x.2=0∧x.1.f.a.size<=2097152∧x.1.t.a.size<=2097152
theorem syn_of {p:Str} {it:It} {ok:Bool} (h:itemL p=(it,ok)):synL p=(!ok||(it.sign != 42&&wrongL it.first)||(it.sign==98&&wrongL it.last)):=by rw[synL,h]
end
section
open Go.RowKit
def RdX (w:World) (A:Option Addr) (v:List ByteArray):Prop:=v≠[]->∃ b o,A=some ⟨b,o,none⟩∧∀ k (h:k < v.length),w.cell? ⟨b,o+k,none⟩=some (.string v[k])
theorem RdX.ext {w w':World} {A:Option Addr} {v:List ByteArray} (h:RdX w A v) (hx:Ext w w'):RdX w' A v:=fun hn=>by
 obtain⟨b,o,e,k⟩:=h hn
 exact⟨b,o,e,fun i hi=>hx.cell (k i hi)⟩
structure Mv where
 fr:List Sp
 tt:V4
 rules:List ByteArray
abbrev mvV (m:Mv) (A:Option Addr) (c:Nat) (A2:Option Addr) (c2:Nat):Value:=.agg #[.slice A m.fr.length c,.int .i64 m.tt.a1,.int .i64 m.tt.a2,.int .i64 m.tt.a3,.string m.tt.a,.slice A2 m.rules.length c2]
def MvIn (w:World) (m:Mv) (A A2:Option Addr):Prop:=RdS w A m.fr∧RdX w A2 m.rules
theorem MvIn.ext {w w':World} {m:Mv} {A A2:Option Addr} (h:MvIn w m A A2) (hx:Ext w w'):MvIn w' m A A2:=⟨h.1.ext hx,h.2.ext hx⟩
structure MvRow (w:World) (b o:Nat) (m:Mv) (A:Option Addr) (c:Nat) (A2:Option Addr) (c2:Nat):Prop where
 r0:w.cell? ⟨b,o,none⟩=some (.slice A m.fr.length c)
 r1:w.cell? ⟨b,o+1,none⟩=some (.int .i64 m.tt.a1)
 r2:w.cell? ⟨b,o+2,none⟩=some (.int .i64 m.tt.a2)
 r3:w.cell? ⟨b,o+3,none⟩=some (.int .i64 m.tt.a3)
 r4:w.cell? ⟨b,o+4,none⟩=some (.string m.tt.a)
 r5:w.cell? ⟨b,o+5,none⟩=some (.slice A2 m.rules.length c2)
 has:MvIn w m A A2
theorem MvRow.ext {w w':World} {b o:Nat} {m:Mv} {A A2:Option Addr} {c c2:Nat} (h:MvRow w b o m A c A2 c2) (hx:Ext w w'):MvRow w' b o m A c A2 c2 :=
 ⟨hx.cell h.r0,hx.cell h.r1,hx.cell h.r2,hx.cell h.r3,hx.cell h.r4,hx.cell h.r5,h.has.ext hx⟩
def RdM (w:World) (A:Option Addr) (l:List Mv):Prop:=l≠[]->∃ b o,A=some ⟨b,o,none⟩∧∀ k (h:k < l.length),∃ A1 c1 A2 c2,MvRow w b (o+k * 6) l[k] A1 c1 A2 c2
theorem RdM.ext {w w':World} {A:Option Addr} {l:List Mv} (h:RdM w A l) (hx:Ext w w'):RdM w' A l:=fun hn=>by
 obtain⟨b,o,e,k⟩:=h hn
 exact⟨b,o,e,fun i hi=>by
  obtain⟨A1,c1,A2,c2,h⟩:=k i hi
  exact⟨A1,c1,A2,c2,h.ext hx⟩⟩
structure SmallM (m:Mv):Prop where
 fr:SmallS m.fr
 len:m.fr.length<=2097152
 tt:m.tt.a.size<=2097152
 num:m.rules.length<=2097152
 rules:∀ x∈m.rules,x.size<=2097152
end
section
open Go.ChangeShapes Go.WideShapes Go.ChangeAt Go.RowKit Go.WideElems Go.Joins
instance:Inhabited Mv:=⟨⟨[],default,[]⟩⟩
def MvCells (W:World) (m:Mv) (cs:List Value):Prop:=∃ A c A2 c2,cs=[.slice A m.fr.length c,.int .i64 m.tt.a1,.int .i64 m.tt.a2,.int .i64 m.tt.a3,.string m.tt.a,.slice A2 m.rules.length c2]∧MvIn W m A A2
def mvBk (m:Mv):Nat:=(m.fr.map fun s=>s.f.a.size+s.t.a.size+10).sum+m.tt.a.size+(m.rules.map fun s=>s.size+1).sum+6
theorem rdX_row {W:World} {A:Option Addr} {v:List ByteArray} (h:RowOf (fun _ (s:ByteArray) cs=>cs=[.string s]) 1 W A v):RdX W A v:=fun hn=>by
 obtain⟨b,o,rfl,hc⟩:=h hn
 refine⟨b,o,rfl,fun k hk=>?_⟩
 obtain⟨ecs,rfl,_,hj⟩:=hc k hk
 have:=hj 0 (by omega)
 rw[Nat.mul_one,Nat.add_zero] at this
 exact this
set_option maxRecDepth 100000 in
theorem opens_move:Opens 195 MvCells mvBk:=fun H enc W fuel cs x h=>by
 obtain⟨y0,y1,y2,n,rfl,hl,h0,h1,h2⟩:=Go.Deep.trod_struct3 Tryz.underlying195 h
 have hc:Tryz.prog.cellsOf 195=6:=by kernel_rfl
 have cr:Tryz.prog.cellsOf 42=1:=by kernel_rfl
 have cv:Tryz.prog.cellsOf 23=4:=by kernel_rfl
 have csl:Tryz.prog.cellsOf 77=1:=by kernel_rfl
 have cst:Tryz.prog.cellsOf 9=1:=by kernel_rfl
 rw[hc] at hl
 match cs,hl with
 | [c0,c1,c2,c3,c4,c5],_ =>
   dsimp only at h0 h1 h2
   rw[cr] at h0
   rw[cv] at h1
   rw[csl] at h2
   obtain⟨fr,⟨A,c,e0,hf⟩,b0⟩:=opens_range H enc W n _ _ h0
   obtain⟨t,e1,b1⟩:=opens_ver H enc W n _ _ h1
   obtain⟨v,⟨A2,cc,e2,hr⟩,b2⟩:=opens_slice (sz:=1) Tryz.underlying77 cst (by decide) (opens_string Tryz.underlying9) H enc W n _ _ h2
   simp at e0 e1 e2
   obtain⟨rfl,rfl,rfl,rfl⟩:=e1
   subst e0 e2
   refine⟨⟨fr,t,v⟩,⟨A,c,A2,cc,rfl,hf,rdX_row hr⟩,?_⟩
   unfold mvBk
   dsimp only at b0 b1 b2 ⊢
   simp only[Rows.uptoBulk,Rows.uptoBulkAll]
   omega
theorem rowOf_moves {W:World} {A:Option Addr} {l:List Mv} (h:RowOf MvCells 6 W A l):RdM W A l:=fun hne=>by
 obtain⟨b,o,rfl,hc⟩:=h hne
 refine⟨b,o,rfl,fun k hk=>?_⟩
 obtain⟨ecs,⟨A',c',A2,c2,rfl,hv⟩,_,hj⟩:=hc k hk
 exact⟨A',c',A2,c2,hj 0 (by omega),hj 1 (by omega),hj 2 (by omega),hj 3 (by omega),hj 4 (by omega),hj 5 (by omega),hv⟩
theorem small_move {m:Mv} {n:Nat} (hn:n<=1048576) (h:mvBk m<=n):SmallM m:=by
 unfold mvBk at h
 have h2:=sum_len (bk:=fun s:Sp=>s.f.a.size+s.t.a.size+10) (c:=1) (fun s=>by omega) m.fr
 have h3:=sum_len (bk:=fun s:ByteArray=>s.size+1) (c:=1) (fun s=>by omega) m.rules
 refine⟨fun x hx=>?_,by omega,by omega,by omega,fun x hx=>?_⟩
 ·have h4:=sum_mem (bk:=fun s:Sp=>s.f.a.size+s.t.a.size+10) hx
  exact⟨by omega,by omega⟩
 ·have h4:=sum_mem (bk:=fun s:ByteArray=>s.size+1) hx
  omega
end
section
open Go.RowKit
structure Of where
 name:ByteArray
 vv:V4
 sum:ByteArray
 fr:List Sp
 nw:Bool
 wh:Cd
 bg:Int
 st:Int
 gr:Int
 hold:Bool
 urg:Bool
 back:Bool
theorem SpS.first {w:World} {b i:Nat} {l:List Sp} (h:SpS w b i l) (hn:l≠[]):b < w.heap.size:=lt_of_cell (h.c0 0 (List.length_pos_iff.2 hn))
theorem RdP.keep {P P':Nat->Prop} {w w':World} (hp:∀ b,b < w.heap.size->P b->P' b) (hc:∀ b o v,P b->w.cell? ⟨b,o,none⟩=some v->w'.cell? ⟨b,o,none⟩=some v) {A:Option Addr} {l:List Sp} (h:RdP P w A l):RdP P' w' A l:=fun hn=>by
 obtain⟨b,i,e,hb,k⟩:=h hn
 exact⟨b,i,e,hp b (k.first hn) hb,⟨fun j hj=>hc b _ _ hb (k.c0 j hj),fun j hj=>hc b _ _ hb (k.c1 j hj),fun j hj=>hc b _ _ hb (k.c2 j hj),fun j hj=>hc b _ _ hb (k.c3 j hj),fun j hj=>hc b _ _ hb (k.c4 j hj),
  fun j hj=>hc b _ _ hb (k.c5 j hj),fun j hj=>hc b _ _ hb (k.c6 j hj),fun j hj=>hc b _ _ hb (k.c7 j hj),fun j hj=>hc b _ _ hb (k.c8 j hj),fun j hj=>hc b _ _ hb (k.c9 j hj)⟩⟩
theorem CdIn.keepP {P P':Nat->Prop} {w w':World} (hp:∀ b,b < w.heap.size->P b->P' b) (hc:∀ b o v,P b->w.cell? ⟨b,o,none⟩=some v->w'.cell? ⟨b,o,none⟩=some v) {c:Cd} {v:Value} (h:CdIn P w c v):CdIn P' w' c v:=by
 have h1:CdIn (fun b=>P b∧P' b) w c v:=h.imp fun b hb hP=>⟨hP,hp b hb hP⟩
 have h2:CdIn (fun b=>P b∧P' b) w' c v:=h1.keep fun b o v hP e=>hc b o v hP.1 e
 exact h2.imp fun b _ hP=>hP.2
def OfIn (P:Nat->Prop) (w:World) (o:Of) (A:Option Addr) (k:Int) (n x:ByteArray) (A2:Option Addr) (m c2:Nat):Prop:=RdP P w A o.fr∧CdIn P w o.wh (.agg #[.int .i64 k,.string n,.string x,.slice A2 m c2])
theorem OfIn.keep {P P':Nat->Prop} {w w':World} (hp:∀ b,b < w.heap.size->P b->P' b) (hc:∀ b o v,P b->w.cell? ⟨b,o,none⟩=some v->w'.cell? ⟨b,o,none⟩=some v) {o:Of} {A:Option Addr} {k:Int} {n x:ByteArray} {A2:Option Addr} {m c2:Nat} (h:OfIn P w o A k n x A2 m c2):OfIn P' w' o A k n x A2 m c2:=⟨h.1.keep hp hc,h.2.keepP hp hc⟩
theorem OfIn.ext {P:Nat->Prop} {w w':World} (hx:Ext w w') {o:Of} {A:Option Addr} {k:Int} {n x:ByteArray} {A2:Option Addr} {m c2:Nat} (h:OfIn P w o A k n x A2 m c2):OfIn P w' o A k n x A2 m c2:=h.keep (fun _ _ h=>h) (fun _ _ _ _ hc=>hx.cell hc)
abbrev AnyB:Nat->Prop:=fun _=>True
structure OfRow (w:World) (b i:Nat) (o:Of) (A:Option Addr) (c:Nat) (k:Int) (n x:ByteArray) (A2:Option Addr) (m c2:Nat):Prop where
 r0:w.cell? ⟨b,i,none⟩=some (.string o.name)
 r1:w.cell? ⟨b,i+1,none⟩=some (.int .i64 o.vv.a1)
 r2:w.cell? ⟨b,i+2,none⟩=some (.int .i64 o.vv.a2)
 r3:w.cell? ⟨b,i+3,none⟩=some (.int .i64 o.vv.a3)
 r4:w.cell? ⟨b,i+4,none⟩=some (.string o.vv.a)
 r5:w.cell? ⟨b,i+5,none⟩=some (.string o.sum)
 r6:w.cell? ⟨b,i+6,none⟩=some (.slice A o.fr.length c)
 r7:w.cell? ⟨b,i+7,none⟩=some (.bool o.nw)
 r8:w.cell? ⟨b,i+8,none⟩=some (.int .i64 k)
 r9:w.cell? ⟨b,i+9,none⟩=some (.string n)
 r10:w.cell? ⟨b,i+10,none⟩=some (.string x)
 r11:w.cell? ⟨b,i+11,none⟩=some (.slice A2 m c2)
 r12:w.cell? ⟨b,i+12,none⟩=some (.int .i64 o.bg)
 r13:w.cell? ⟨b,i+13,none⟩=some (.int .i64 o.st)
 r14:w.cell? ⟨b,i+14,none⟩=some (.int .i64 o.gr)
 r15:w.cell? ⟨b,i+15,none⟩=some (.bool o.hold)
 r16:w.cell? ⟨b,i+16,none⟩=some (.bool o.urg)
 r17:w.cell? ⟨b,i+17,none⟩=some (.bool o.back)
 has:OfIn AnyB w o A k n x A2 m c2
theorem OfRow.ext {w w':World} {b i:Nat} {o:Of} {A:Option Addr} {c:Nat} {k:Int} {n x:ByteArray} {A2:Option Addr} {m c2:Nat} (h:OfRow w b i o A c k n x A2 m c2) (hx:Ext w w'):OfRow w' b i o A c k n x A2 m c2 :=
 ⟨hx.cell h.r0,hx.cell h.r1,hx.cell h.r2,hx.cell h.r3,hx.cell h.r4,hx.cell h.r5,hx.cell h.r6,hx.cell h.r7,hx.cell h.r8,hx.cell h.r9,hx.cell h.r10,hx.cell h.r11,hx.cell h.r12,hx.cell h.r13,hx.cell h.r14,hx.cell h.r15,hx.cell h.r16,hx.cell h.r17,h.has.ext hx⟩
def RdO (w:World) (A:Option Addr) (l:List Of):Prop:=l≠[]->∃ b i,A=some ⟨b,i,none⟩∧∀ k (h:k < l.length),∃ A1 c1 kk n x A2 m c2,OfRow w b (i+k * 18) l[k] A1 c1 kk n x A2 m c2
theorem RdO.ext {w w':World} {A:Option Addr} {l:List Of} (h:RdO w A l) (hx:Ext w w'):RdO w' A l:=fun hn=>by
 obtain⟨b,i,e,k⟩:=h hn
 exact⟨b,i,e,fun j hj=>by
  obtain⟨A1,c1,kk,n,x,A2,m,c2,h⟩:=k j hj
  exact⟨A1,c1,kk,n,x,A2,m,c2,h.ext hx⟩⟩
end
end Go.Proofs.YtmpccllnpcbgcaaGreatDoor
