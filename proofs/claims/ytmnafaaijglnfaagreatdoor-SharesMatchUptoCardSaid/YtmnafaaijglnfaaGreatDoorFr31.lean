/- Contract of the reader's line. (Printed by gen/frb.py.) -/
import Derived.Test.YtmnafaaijglnfaaGreatDoorFr29
namespace Go.Proofs.YtmnafaaijglnfaaGreatDoor
open Go.RowKit
def LinePost (w0:World) (b n:Nat) (e:Ending) (w':World):Prop:=∃ ok,e=.returned (.bool ok)∧Ext w0 w'∧(ok=true->∃ ch sr tm v l st fl,RSt w' b ch sr tm v l st fl∧1<=st∧st<=9∧(2<=st->l≠[])∧l.length<=n+1)
theorem line_no {w0 w':World} {b n:Nat} (hx:Ext w0 w'):LinePost w0 b n (.returned (.bool false)) w':=⟨false,rfl,hx,fun h=>by cases h⟩
section
variable {w w0:World} {b:Nat} {ch:ByteArray} {sr tm:Int} {g cap:Nat} {li:List Of} {ys:List Value} {o:Of} {A:Option Addr} {c:Nat} {k:Int} {n x:ByteArray} {A2:Option Addr} {m c2:Nat} {st fl:Int}
theorem RSl.line {ok:Bool} (h:ok=true->∃ o' A c k n x A2 m c2,RSl w b ch sr tm g cap li ys o' A c k n x A2 m c2 st fl) (h1:1<=st) (h9:st<=9) (hx:Ext w0 w):LinePost w0 b (li.length+1) (.returned (.bool ok)) w :=
 ⟨ok,rfl,hx,fun e=>by
   obtain⟨o',A,c,k,n,x,A2,m,c2,h⟩:=h e
   exact⟨_,_,_,_,_,_,_,h.whole,h1,h9,fun _=>by simp,by simp⟩⟩
theorem RSl.lineN {ok:Bool} {n1:Nat} (hn:n1=li.length+1) (h:ok=true->∃ o' A c k n x A2 m c2,RSl w b ch sr tm g cap li ys o' A c k n x A2 m c2 st fl) (h1:1<=st) (h9:st<=9) (hx:Ext w0 w):LinePost w0 b n1 (.returned (.bool ok)) w:=by
 subst hn;exact RSl.line h h1 h9 hx
end
theorem spans_lenF (q:List (Sp × Int)):(spansOf q).1.length<=10:=by
 unfold spansOf
 split
 ·exact Nat.zero_le _
 ·split
  ·exact Nat.zero_le _
  ·rename_i h
   exact (rng_ok (Classical.not_not.1 h)).1
theorem spans_few {q:List (Sp × Int)}:(spansOf q).1.length<=10:=spans_lenF q
theorem parseR_len (s:Str):(parseR s).1.length<=10:=by
 unfold parseR
 split
 ·exact Nat.zero_le _
 ·split
  ·exact Nat.zero_le _
  ·split
   ·exact Nat.zero_le _
   ·exact spans_lenF _
set_option maxHeartbeats 32000000 in
set_option maxRecDepth 100000 in
theorem line_any (b:Nat) (ch:ByteArray) (sr tm:Int) (v:Value) (l:List Of) (st fl:Int) (s:ByteArray) (w0 w:World) (hg:GoodN w0) (hx0:Ext w0 w) (hB:w0.heap.size<=b) (h:RSt w b ch sr tm v l st fl) (h0:0<=st) (h9:st<=9) (hl2:2<=st->l≠[]) (hlen:l.length<=2000000) (hz:s.size<=2097152) :
 Calls Tryz.prog 122 #[.pointer (some ⟨b,0,none⟩),.string s] w (LinePost w0 b l.length):=by
 have HS:=Hy h
 have HX0:=Hy hx0
 have HG:=Hy hg
 have HL2:=Hy hl2
 clear h hx0 hg hl2
 go_enter Tryz.func122,Tryz.ntmps122
 go_wp2_with fail
 refine (cut_ex 32 s _ (HG.out.ext HX0.out).toGood hz).mono ?_
 rintro e w1 ⟨wd,rs,mo,rfl,hcut,hwz,hrz,hx1⟩
 clear hcut
 go_wp2_with fail
 have hb1:b < w1.heap.size:=Nat.lt_of_lt_of_le HS.out.blk.lt hx1.size
 refine (split_w rs ⟨#[32]⟩ _ (HG.out.ext (HX0.out.trans hx1)).toGood (by omega) (by decide)).mono ?_
 rintro e w2 ⟨xs,rfl,hst,hxs,hxp,hxl,hxz,hx2,hsz⟩
 obtain⟨gp,hgp⟩:∃ gp,w1.heap.size=gp:=⟨_,rfl⟩
 rw[hgp] at hst hb1 ⊢
 have HGV:=Hy (show v.ownBlock≠some gp from fun e=>by have h1:=(HS.out.base _ e).2;have h2:=hx1.size;omega)
 clear hgp hsz
 have hx12:=hx1.trans hx2
 have hx02:=HX0.out.trans hx12
 have HRS:=Hy (HS.out.ext hx12)
 have HG2:=Hy HG.out
 have HP:=Hy (RdL.of hst)
 have HXZ:=Hy (show ∀ x∈xs,x.size<=2097152 from fun x hx=>by have:=hxz x hx;omega)
 clear hst hxs hxz hx1 hx2 hx12 HS HX0 HG
 obtain⟨xn,hxn⟩:∃ n,xs.length=n:=⟨_,rfl⟩
 rw[hxn]
 rw[hxn] at hxl
 have HXN:=Hy hxn
 clear hxn hxp
 have hc:=HRS.out.blk.cell;have hf:=HRS.out.blk.free;have hl:=HRS.out.blk.lt
 by_cases hs0:st=0
 ·subst hs0
  cases hw:(wd.toList==[102,101,101,100])
  ·go_wp2
   go_ret
   exact line_no hx02
  ·go_wp2_with fail
   refine (head_any b v l ch sr tm 0 fl xs gp xn xn w0 _ HG2.out hx02 hB HXN.out HP.out HXZ.out HRS.out).mono ?_
   rintro e w3 ⟨ok,rfl,hx3,hh⟩
   clear hc hf
   go_wp2
   go_ret
   exact⟨ok,rfl,hx3,fun e=>by
    obtain⟨ch',sr',tm',h⟩:=hh e
    exact⟨_,_,_,_,_,_,_,h,by decide,by decide,fun h=>absurd h (by decide),by omega⟩⟩
 cases hw:(wd.toList==[111,102,102,101,114])
 rotate_left
 ·cases mo
  ·go_wp2
   go_ret
   exact line_no hx02
  go_wp2_with fail
  refine (whole_any st _).mono ?_
  rintro e w' ⟨rfl,rfl⟩
  by_cases hd:st=1∨6<=st
  rotate_left
  ·have hdd:=decide_eq_false hd
   go_wp2
   go_ret
   exact line_no hx02
  have hdd:=decide_eq_true hd
  go_wp2_with fail
  refine (offerR_any b v l ch sr tm st fl xs gp xn xn w0 _ HG2.out hx02 hB hlen HXN.out HP.out HXZ.out HGV.out HRS.out).mono ?_
  rintro e w3 ⟨ok,rfl,hx3,hh⟩
  clear hc hf
  go_wp2
  go_ret
  exact⟨ok,rfl,hx3,fun e=>by
   obtain⟨v',o,fl',h⟩:=hh e
   exact⟨_,_,_,_,_,_,_,h,by decide,by decide,fun _=>by simp,by simp⟩⟩
 by_cases hs1:st=1
 ·subst hs1
  go_wp2
  go_ret
  exact line_no hx02
 obtain⟨g,cap,li,ys,o,A,cA,k,nm,x,A2,m,c2,rfl,rfl,hbg,hR⟩:=HRS.out.split (HL2.out (by omega))
 have HR:=Hy hR
 have hgl:=hR.base.2
 have hlb:li.length<=2000000:=by rw[List.length_append,List.length_singleton] at hlen;omega
 rw[List.length_append,List.length_singleton]
 clear HRS HL2 hlen
 obtain⟨lm,hlm⟩:∃ lm,li.length=lm:=⟨_,rfl⟩
 rw[hlm] at hc hlb ⊢
 have HLM:=Hy hlm
 clear hlm hR
 have jw:IntKind.i64.wrap (lm:Int)=(lm:Int):=IntWalk.i64_in _ (by omega)
 go_wp2_with fail
 refine wp_region_ext (by kernel_rfl) (by kernel_rfl) ?_
 repeat (first|go_big_quiet_skip|(refine wpQuiet_step (fun K hK=>?_);go_simp;first|(refine hK _ ?_;clear hK K)|(apply Exists.intro;refine⟨fun wq hwq=>?_,hK _ ?_⟩;(obtain⟨hqc,hqf⟩:=hwq.cells;have hqs:=hwq.size;(try go_simp);first|rfl|((first|rw[if_neg (by omega)]|rw[if_pos (by omega)]);(try go_simp);rfl)|((fail)));clear hK K)))
 refine wpQuiet_nil ?_
 intro wN hxN
 obtain⟨hcN,hfN⟩:=hxN.cells
 have hsN:=hxN.size
 clear jw
 cases hwf:(wd.toList==[102,114,111,109])
 rotate_left
 ·have hR:=HR.out.ext hxN
  have hgN:=HG2.out.ext (hx02.trans hxN)
  clear hc hf
  have hbl:=hR.blk.lt;have hgl2:=hR.base.2
  have HPL:=Hy (parseR_len (bs rs))
  go_wp2_with fail
  refine (ParseRange_own rs _ hgN (by omega)).mono ?_
  rintro e w4 ⟨A',c',rfl,hrd,hsm,hx4⟩
  have HSM:=Hy hsm
  generalize (parseR (bs rs)).1=q at *
  generalize (parseR (bs rs)).2=er at *
  clear hsm
  have hxa:=hx4.alloc (.cells #[.slice A' q.length c'] 42)
  have hR5:=hR.ext hxa
  have hrd5:RdP (fun j=>b < j∧j≠g) (w4.alloc (.cells #[.slice A' q.length c'] 42)) A' q:=hrd.keep (fun j _ hj=>by omega) (fun j i u _ e=>((Ext.refl w4).alloc (.cells #[.slice A' q.length c'] 42)).cell e)
  have c6:=hR5.cellAt 6 (by decide)
  dsimp only[List.getElem?_cons_succ,List.getElem?_cons_zero] at c6
  rw[HLM.out] at c6
  have hfr:=hR5.free;have hgl3:=hR5.base.2
  have H1:=hR5.put 6 (.slice A' q.length c') (o':={ o with fr:=q }) (A':=A') (c':=c') rfl ⟨hrd5,hR5.has.2⟩ ⟨hR5.small.2.name,hR5.small.2.vv,hR5.small.2.sum,HSM.out,by have:=HPL.out;show q.length<=_;omega,hR5.small.2.wh,hR5.small.2.cnt⟩
  rw[HLM.out] at H1
  have HX:=Hy ((((hx02.trans hxN).trans hxa).setCell (p:=⟨g,lm * 18+6,none⟩) (by dsimp only;omega) (.slice A' q.length c')).setCell (p:=⟨b,4,none⟩) hB (.int .i64 3))
  have HX2:=Hy (HX.out.setCell (p:=⟨b,5,none⟩) hB (.int .i64 er))
  have CE:=Hy (enter_any b ch sr tm st fl _ _ H1.blk 3 2 2)
  have CO:=Hy (noted_any b ch sr tm 3 fl _ _ (H1.mark 3).blk er)
  have HM:=Hy ((H1.mark 3).note er)
  clear H1 hR hR5 hrd hrd5
  generalize q.length=ql at *
  go_wp2_with fail
  refine CE.out.mono ?_
  rintro e w' ⟨rfl,rfl⟩
  generalize (decide ((2:Int)<=st)&&decide (st<=2))=en
  cases en
  ·go_wp2
   go_ret
   exact line_no HX.out
  cases mo
  ·go_wp2
   go_ret
   exact line_no HX.out
  go_wp2_with fail
  refine CO.out.mono ?_
  rintro e w' ⟨rfl,rfl⟩
  go_wp2
  go_ret
  exact RSl.lineN (li:=li) (by first|rfl|(simp;done)|(rw[<-HLM.out];done)|(simp[HLM.out];done)) (fun _=>⟨_,_,_,_,_,_,_,_,_,HM.out⟩) (by decide) (by decide) HX2.out
 cases hwn:(wd.toList==[119,104,101,110])
 rotate_left
 ·have hR:=HR.out.ext hxN
  have hgN:=HG2.out.ext (hx02.trans hxN)
  clear hc hf
  have hbl:=hR.blk.lt;have hgl2:=hR.base.2
  go_wp2_with fail
  refine (ParseCond_own rs _ hgN (by omega)).mono ?_
  rintro e w4 ⟨vc,rfl,hcd,hsm,hct,hx4⟩
  obtain⟨k',n',x',A2',m',c2',rfl⟩:=hcd.cells
  have HSM:=Hy hsm
  have HCT:=Hy hct
  generalize (parseC rs).1=q at *
  generalize (parseC rs).2.1=ea at *
  generalize (parseC rs).2.2=er at *
  clear hsm hct
  have hxa:=hx4.alloc (.cells #[.int .i64 k',.string n',.string x',.slice A2' m' c2'] 52)
  have hR5:=hR.ext hxa
  have hcd5:CdIn (fun j=>b < j∧j≠g) (w4.alloc (.cells #[.int .i64 k',.string n',.string x',.slice A2' m' c2'] 52)) q (.agg #[.int .i64 k',.string n',.string x',.slice A2' m' c2']):=hcd.keepP (fun j _ hj=>by omega) (fun j i u _ e=>((Ext.refl w4).alloc (.cells #[.int .i64 k',.string n',.string x',.slice A2' m' c2'] 52)).cell e)
  have c8:=hR5.cellAt 8 (by decide)
  dsimp only[List.getElem?_cons_succ,List.getElem?_cons_zero] at c8
  rw[HLM.out] at c8
  have c9:=hR5.cellAt 9 (by decide)
  dsimp only[List.getElem?_cons_succ,List.getElem?_cons_zero] at c9
  rw[HLM.out] at c9
  have c10:=hR5.cellAt 10 (by decide)
  dsimp only[List.getElem?_cons_succ,List.getElem?_cons_zero] at c10
  rw[HLM.out] at c10
  have c11:=hR5.cellAt 11 (by decide)
  dsimp only[List.getElem?_cons_succ,List.getElem?_cons_zero] at c11
  rw[HLM.out] at c11
  have hfr:=hR5.free;have hgl3:=hR5.base.2
  have HPUT:=Hy (RSl.putW hR5 (k':=k') (n':=n') (x':=x') (A2':=A2') (m':=m') (c2':=c2') hcd5 HSM.out HCT.out)
  rw[HLM.out] at HPUT
  have H1:=HPUT.out
  have HX:=Hy (((((((hx02.trans hxN).trans hxa).setCell (p:=⟨g,lm * 18+8,none⟩) (by dsimp only;omega) (.int .i64 k')).setCell (p:=⟨g,lm * 18+9,none⟩) (by dsimp only;omega) (.string n')).setCell (p:=⟨g,lm * 18+10,none⟩) (by dsimp only;omega) (.string x')).setCell (p:=⟨g,lm * 18+11,none⟩) (by dsimp only;omega) (.slice A2' m' c2')).setCell (p:=⟨b,4,none⟩) hB (.int .i64 5))
  have HX2:=Hy (HX.out.setCell (p:=⟨b,5,none⟩) hB (.int .i64 er))
  have CE:=Hy (enter_any b ch sr tm st fl _ _ H1.blk 5 3 4)
  have CO:=Hy (noted_any b ch sr tm 5 fl _ _ (H1.mark 5).blk er)
  have HM:=Hy ((H1.mark 5).note er)
  clear H1 HPUT hR hR5 hcd hcd5
  go_wp2_with fail
  refine CE.out.mono ?_
  rintro e w' ⟨rfl,rfl⟩
  generalize (decide ((3:Int)<=st)&&decide (st<=4))=en
  cases en
  ·go_wp2
   go_ret
   exact line_no HX.out
  cases mo
  ·go_wp2
   go_ret
   exact line_no HX.out
  go_wp2_with fail
  refine CO.out.mono ?_
  rintro e w' ⟨rfl,rfl⟩
  go_wp2
  go_ret
  exact RSl.lineN (li:=li) (by first|rfl|(simp;done)|(rw[<-HLM.out];done)|(simp[HLM.out];done)) (fun _=>⟨_,_,_,_,_,_,_,_,_,HM.out⟩) (by decide) (by decide) HX2.out
 cases hws:(wd.toList==[115,104,97,114,101])
 rotate_left
 ·have hR:=HR.out.ext hxN
  have CE:=Hy (enter_any b ch sr tm st fl _ _ hR.blk 6 3 5)
  try rw[HLM.out] at CE
  have HM:=Hy (hR.mark 6)
  have HXM:=Hy ((hx02.trans hxN).setCell (p:=⟨b,4,none⟩) hB (.int .i64 6))
  have hbl:=hR.blk.lt
  have CS:=Hy (share_any b ch sr tm g cap li ys o A cA k nm x A2 m c2 6 fl xs gp xn xn w0 _ HG2.out HXM.out hB HXN.out ((HP.out.ext hxN).set (p:=⟨b,4,none⟩) (by dsimp only;omega) _) HXZ.out HM.out)
  rw[HLM.out] at CS
  clear hR hc hf
  go_wp2_with fail
  refine CE.out.mono ?_
  rintro e w' ⟨rfl,rfl⟩
  generalize (decide ((3:Int)<=st)&&decide (st<=5))=en
  cases en
  ·go_wp2
   go_ret
   exact line_no HXM.out
  go_wp2_with fail
  refine CS.out.mono ?_
  rintro e w5 ⟨ok,rfl,hx5,hh⟩
  go_wp2
  go_ret
  rw[<-HLM.out]
  exact RSl.lineN (li:=li) (by first|rfl|(simp;done)|(rw[<-HLM.out];done)|(simp[HLM.out];done)) (fun e=>by
   obtain⟨bg,s2,gr,h⟩:=hh e
   exact⟨_,_,_,_,_,_,_,_,_,h⟩) (by decide) (by decide) hx5
 cases hw7:(wd.toList==[110,101,119])
 rotate_left
 ·have hR:=HR.out.ext hxN
  have c7:=hR.cellAt 7 (by decide)
  dsimp only[List.getElem?_cons_succ,List.getElem?_cons_zero] at c7
  rw[HLM.out] at c7
  have hfr:=hR.free;have hgl:=hR.base.2
  clear hfN hcN
  have H1:=hR.put 7 (.bool true) (o':={ o with nw:=true }) rfl hR.has ⟨hR.small.2.name,hR.small.2.vv,hR.small.2.sum,hR.small.2.fr,hR.small.2.len,hR.small.2.wh,hR.small.2.cnt⟩
  rw[HLM.out] at H1
  have HX:=Hy (((hx02.trans hxN).setCell (p:=⟨g,lm * 18+7,none⟩) (by dsimp only;omega) (.bool true)).setCell (p:=⟨b,4,none⟩) hB (.int .i64 4))
  have CE:=Hy (enter_any b ch sr tm st fl _ _ H1.blk 4 3 3)
  have HM:=Hy (H1.mark 4)
  clear H1 hR hc hf
  go_wp2_with fail
  refine CE.out.mono ?_
  rintro e w' ⟨rfl,rfl⟩
  generalize (decide ((3:Int)<=st)&&decide (st<=3))=en
  cases en
  ·go_wp2
   go_ret
   exact line_no HX.out
  ·go_wp2
   go_ret
   exact RSl.lineN (li:=li) (by first|rfl|(simp;done)|(rw[<-HLM.out];done)|(simp[HLM.out];done)) (fun _=>⟨_,_,_,_,_,_,_,_,_,HM.out⟩) (by decide) (by decide) HX.out
 cases hw15:(wd.toList==[104,111,108,100])
 rotate_left
 ·have hR:=HR.out.ext hxN
  have c15:=hR.cellAt 15 (by decide)
  dsimp only[List.getElem?_cons_succ,List.getElem?_cons_zero] at c15
  rw[HLM.out] at c15
  have hfr:=hR.free;have hgl:=hR.base.2
  clear hfN hcN
  have H1:=hR.put 15 (.bool true) (o':={ o with hold:=true }) rfl hR.has ⟨hR.small.2.name,hR.small.2.vv,hR.small.2.sum,hR.small.2.fr,hR.small.2.len,hR.small.2.wh,hR.small.2.cnt⟩
  rw[HLM.out] at H1
  have HX:=Hy (((hx02.trans hxN).setCell (p:=⟨g,lm * 18+15,none⟩) (by dsimp only;omega) (.bool true)).setCell (p:=⟨b,4,none⟩) hB (.int .i64 7))
  have CE:=Hy (enter_any b ch sr tm st fl _ _ H1.blk 7 6 6)
  have HM:=Hy (H1.mark 7)
  clear H1 hR hc hf
  go_wp2_with fail
  refine CE.out.mono ?_
  rintro e w' ⟨rfl,rfl⟩
  generalize (decide ((6:Int)<=st)&&decide (st<=6))=en
  cases en
  ·go_wp2
   go_ret
   exact line_no HX.out
  ·go_wp2
   go_ret
   exact RSl.lineN (li:=li) (by first|rfl|(simp;done)|(rw[<-HLM.out];done)|(simp[HLM.out];done)) (fun _=>⟨_,_,_,_,_,_,_,_,_,HM.out⟩) (by decide) (by decide) HX.out
 cases hw16:(wd.toList==[117,114,103,101,110,116])
 rotate_left
 ·have hR:=HR.out.ext hxN
  have c16:=hR.cellAt 16 (by decide)
  dsimp only[List.getElem?_cons_succ,List.getElem?_cons_zero] at c16
  rw[HLM.out] at c16
  have hfr:=hR.free;have hgl:=hR.base.2
  clear hfN hcN
  have H1:=hR.put 16 (.bool true) (o':={ o with urg:=true }) rfl hR.has ⟨hR.small.2.name,hR.small.2.vv,hR.small.2.sum,hR.small.2.fr,hR.small.2.len,hR.small.2.wh,hR.small.2.cnt⟩
  rw[HLM.out] at H1
  have HX:=Hy (((hx02.trans hxN).setCell (p:=⟨g,lm * 18+16,none⟩) (by dsimp only;omega) (.bool true)).setCell (p:=⟨b,4,none⟩) hB (.int .i64 8))
  have CE:=Hy (enter_any b ch sr tm st fl _ _ H1.blk 8 6 7)
  have HM:=Hy (H1.mark 8)
  clear H1 hR hc hf
  go_wp2_with fail
  refine CE.out.mono ?_
  rintro e w' ⟨rfl,rfl⟩
  generalize (decide ((6:Int)<=st)&&decide (st<=7))=en
  cases en
  ·go_wp2
   go_ret
   exact line_no HX.out
  ·go_wp2
   go_ret
   exact RSl.lineN (li:=li) (by first|rfl|(simp;done)|(rw[<-HLM.out];done)|(simp[HLM.out];done)) (fun _=>⟨_,_,_,_,_,_,_,_,_,HM.out⟩) (by decide) (by decide) HX.out
 cases hw17:(wd.toList==[98,97,99,107])
 rotate_left
 ·have hR:=HR.out.ext hxN
  have c17:=hR.cellAt 17 (by decide)
  dsimp only[List.getElem?_cons_succ,List.getElem?_cons_zero] at c17
  rw[HLM.out] at c17
  have hfr:=hR.free;have hgl:=hR.base.2
  clear hfN hcN
  have H1:=hR.put 17 (.bool true) (o':={ o with back:=true }) rfl hR.has ⟨hR.small.2.name,hR.small.2.vv,hR.small.2.sum,hR.small.2.fr,hR.small.2.len,hR.small.2.wh,hR.small.2.cnt⟩
  rw[HLM.out] at H1
  have HX:=Hy (((hx02.trans hxN).setCell (p:=⟨g,lm * 18+17,none⟩) (by dsimp only;omega) (.bool true)).setCell (p:=⟨b,4,none⟩) hB (.int .i64 9))
  have CE:=Hy (enter_any b ch sr tm st fl _ _ H1.blk 9 6 8)
  have HM:=Hy (H1.mark 9)
  clear H1 hR hc hf
  go_wp2_with fail
  refine CE.out.mono ?_
  rintro e w' ⟨rfl,rfl⟩
  generalize (decide ((6:Int)<=st)&&decide (st<=8))=en
  cases en
  ·go_wp2
   go_ret
   exact line_no HX.out
  ·go_wp2
   go_ret
   exact RSl.lineN (li:=li) (by first|rfl|(simp;done)|(rw[<-HLM.out];done)|(simp[HLM.out];done)) (fun _=>⟨_,_,_,_,_,_,_,_,_,HM.out⟩) (by decide) (by decide) HX.out
 go_wp2
 go_ret
 exact line_no (hx02.trans hxN)
end Go.Proofs.YtmnafaaijglnfaaGreatDoor
