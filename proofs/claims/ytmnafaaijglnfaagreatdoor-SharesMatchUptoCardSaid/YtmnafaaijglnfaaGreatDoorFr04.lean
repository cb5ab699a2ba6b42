/- Contracts of ver.Next, number. Contract of ver.Parse. Contracts of outref2: ValueOf, Number, VersionText. Contracts of ver.quotedAt, ver.isBlank, ver.kindOf. The condition reader of the program in memory: its state; 'is', 'fail'. -/
import Derived.Test.YtmnafaaijglnfaaGreatDoorFr02
namespace Go.Proofs.YtmnafaaijglnfaaGreatDoor
section
open Go.RowKit
abbrev verVal (a1 a2 a3:Int) (a:ByteArray):Value:=.agg #[.int .i64 a1,.int .i64 a2,.int .i64 a3,.string a]
def nextN (ma mi pa:Int) (e:Str) (part:Int):Option (Int × Int × Int) :=
 if part=0 then some (ma+1,0,0) else if part=1 then some (ma,mi+1,0) else if part=2 then some (ma,mi,if e=[] then pa+1 else pa) else none
def nextV (ma mi pa:Int) (e:Str) (part:Int):(Int × Int × Int) × Int :=
 if checkV ma mi pa e=0 then (match nextN ma mi pa e part with|none=>((0,0,0),3)|some v=>if checkV v.1 v.2.1 v.2.2 []=0 then (v,0) else ((0,0,0),3))
 else ((0,0,0),checkV ma mi pa e)
def NextPost (ma mi pa:Int) (e:Str) (part:Int) (w:World) (E:Ending) (w':World):Prop :=
 E=.returned (.tuple #[verVal (nextV ma mi pa e part).1.1 (nextV ma mi pa e part).1.2.1 (nextV ma mi pa e part).1.2.2 ⟨#[]⟩,.int .i64 (nextV ma mi pa e part).2])∧Ext w w'
theorem next_err {ma mi pa:Int} {e:Str} {part:Int} (h:checkV ma mi pa e≠0):nextV ma mi pa e part=((0,0,0),checkV ma mi pa e):=by rw[nextV,if_neg h]
theorem next_none {ma mi pa:Int} {e:Str} {part:Int} (h:checkV ma mi pa e=0) (h2:nextN ma mi pa e part=none):nextV ma mi pa e part=((0,0,0),3):=by rw[nextV,if_pos h,h2]
theorem next_ok {ma mi pa:Int} {e:Str} {part x y z:Int} (h:checkV ma mi pa e=0) (h2:nextN ma mi pa e part=some (x,y,z)) (h3:checkV x y z []=0):nextV ma mi pa e part=((x,y,z),0):=by
 rw[nextV,if_pos h,h2]
 simp only
 rw[if_pos h3]
theorem next_out {ma mi pa:Int} {e:Str} {part x y z:Int} (h:checkV ma mi pa e=0) (h2:nextN ma mi pa e part=some (x,y,z)) (h3:checkV x y z []≠0):nextV ma mi pa e part=((0,0,0),3):=by
 rw[nextV,if_pos h,h2]
 simp only
 rw[if_neg h3]
theorem post_next {ma mi pa:Int} {e:Str} {part:Int} {w w':World} {x y z r:Int} (h:nextV ma mi pa e part=((x,y,z),r)) (hx:Ext w w'):NextPost ma mi pa e part w (.returned (.tuple #[verVal x y z ⟨#[]⟩,.int .i64 r])) w':=by
 unfold NextPost
 rw[h]
 exact⟨rfl,hx⟩
set_option maxHeartbeats 2000000 in
theorem Next_any (ma mi pa part:Int) (ea:ByteArray) (w:World) (hg:Good w) (hs:ea.size<=2097152) :
 Calls Tryz.prog 14 #[.agg #[.int .i64 ma,.int .i64 mi,.int .i64 pa,.string ea],.int .i64 part] w (NextPost ma mi pa (bs ea) part w):=by
 go_enter Tryz.func14,Tryz.ntmps14
 go_wp2_with fail
 refine (Check_any ma mi pa ea _ (hg.ext Ext.au) hs).mono ?_
 rintro e w1 ⟨rfl,hx1⟩
 obtain⟨hc1,hf1⟩:=hx1.cells
 have hz1:=hx1.size
 have hz2:w.heap.size+1 < w1.heap.size:=by simp at hz1;omega
 have hz3:w.heap.size < w1.heap.size:=by omega
 clear hz1
 have hxx:Ext w w1:=Ext.trans Ext.au hx1
 by_cases h0:checkV ma mi pa (bs ea)=0
 ·obtain⟨p1,p2,p3,p4⟩:=checkV_ok h0
  obtain⟨p1,p1'⟩:=p1
  obtain⟨p2,p2'⟩:=p2
  obtain⟨p3,p3'⟩:=p3
  have H0:=Hy h0
  rw[h0]
  clear h0 p4
  by_cases hp0:part=0
  ·subst hp0
   have hN:nextN ma mi pa (bs ea) 0=some (ma+1,0,0):=by rw[nextN,if_pos rfl]
   have HN:=Hy hN
   clear hN
   go_wp2_with fail
   refine (Check_any (ma+1) (0) (0) ⟨#[]⟩ _ (hg.ext (Ext.trans hxx ?_)) (by decide)).mono ?_
   ·exact Ext.ad
   rintro e w2 ⟨rfl,hx2⟩
   obtain⟨hc2,hf2⟩:=hx2.cells
   have hz4:=hx2.size
   have hz5:w1.heap.size < w2.heap.size:=by simp at hz4;omega
   have hz6:w.heap.size+1 < w2.heap.size:=by omega
   have hx3:Ext w1 w2:=Ext.trans Ext.ad hx2
   have hx4:Ext w w2:=hxx.trans hx3
   clear hz4
   have hbe:bs { data:=#[] }=[]:=rfl
   by_cases h5:checkV (ma+1) (0) (0) (bs { data:=#[] })=0
   ·have H5:=Hy h5
    rw[h5]
    clear h5
    go_wp2
    refine bodyPost_ret (v:=.tuple #[verVal (ma+1) (0) (0) ⟨#[]⟩,.int .i64 0]) (by simp[results,Tryz.results14,go_sem,hc1,hc2,hz2,hz3]) rfl (post_next (next_ok H0.out HN.out H5.out) ?_)
    exact Ext.ad
   ·go_wp2
    refine bodyPost_ret (v:=.tuple #[verVal 0 0 0 ⟨#[]⟩,.int .i64 3]) (by simp[results,Tryz.results14,go_sem,hc1,hc2,hz2,hz3]) rfl (post_next (next_out H0.out HN.out h5) ?_)
    exact Ext.ad
  by_cases hp1:part=1
  ·subst hp1
   have hN:nextN ma mi pa (bs ea) 1=some (ma,mi+1,0):=by rw[nextN,if_neg (by decide),if_pos rfl]
   have HN:=Hy hN
   clear hN
   go_wp2_with fail
   refine (Check_any (ma) (mi+1) (0) ⟨#[]⟩ _ (hg.ext (Ext.trans hxx ?_)) (by decide)).mono ?_
   ·exact Ext.ad
   rintro e w2 ⟨rfl,hx2⟩
   obtain⟨hc2,hf2⟩:=hx2.cells
   have hz4:=hx2.size
   have hz5:w1.heap.size < w2.heap.size:=by simp at hz4;omega
   have hz6:w.heap.size+1 < w2.heap.size:=by omega
   have hx3:Ext w1 w2:=Ext.trans Ext.ad hx2
   have hx4:Ext w w2:=hxx.trans hx3
   clear hz4
   have hbe:bs { data:=#[] }=[]:=rfl
   by_cases h5:checkV (ma) (mi+1) (0) (bs { data:=#[] })=0
   ·have H5:=Hy h5
    rw[h5]
    clear h5
    go_wp2
    refine bodyPost_ret (v:=.tuple #[verVal (ma) (mi+1) (0) ⟨#[]⟩,.int .i64 0]) (by simp[results,Tryz.results14,go_sem,hc1,hc2,hz2,hz3]) rfl (post_next (next_ok H0.out HN.out H5.out) ?_)
    exact Ext.ad
   ·go_wp2
    refine bodyPost_ret (v:=.tuple #[verVal 0 0 0 ⟨#[]⟩,.int .i64 3]) (by simp[results,Tryz.results14,go_sem,hc1,hc2,hz2,hz3]) rfl (post_next (next_out H0.out HN.out h5) ?_)
    exact Ext.ad
  by_cases hp2:part=2
  ·subst hp2
   rcases Nat.eq_zero_or_pos ea.size with hs0|hs0
   ·have hi:=emp_bool hs0
    have hN:nextN ma mi pa (bs ea) 2=some (ma,mi,pa+1):=by rw[nextN,if_neg (by decide),if_neg (by decide),if_pos rfl,if_pos (bs_nil hs0)]
    have HN:=Hy hN
    clear hN
    go_wp2_with fail
    refine (Check_any (ma) (mi) (pa+1) ⟨#[]⟩ _ (hg.ext (Ext.trans hxx ?_)) (by decide)).mono ?_
    ·exact Ext.ad
    rintro e w2 ⟨rfl,hx2⟩
    obtain⟨hc2,hf2⟩:=hx2.cells
    have hz4:=hx2.size
    have hz5:w1.heap.size < w2.heap.size:=by simp at hz4;omega
    have hz6:w.heap.size+1 < w2.heap.size:=by omega
    have hx3:Ext w1 w2:=Ext.trans Ext.ad hx2
    have hx4:Ext w w2:=hxx.trans hx3
    clear hz4
    have hbe:bs { data:=#[] }=[]:=rfl
    by_cases h5:checkV (ma) (mi) (pa+1) (bs { data:=#[] })=0
    ·have H5:=Hy h5
     rw[h5]
     clear h5
     go_wp2
     refine bodyPost_ret (v:=.tuple #[verVal (ma) (mi) (pa+1) ⟨#[]⟩,.int .i64 0]) (by simp[results,Tryz.results14,go_sem,hc1,hc2,hz2,hz3]) rfl (post_next (next_ok H0.out HN.out H5.out) ?_)
     exact Ext.ad
    ·go_wp2
     refine bodyPost_ret (v:=.tuple #[verVal 0 0 0 ⟨#[]⟩,.int .i64 3]) (by simp[results,Tryz.results14,go_sem,hc1,hc2,hz2,hz3]) rfl (post_next (next_out H0.out HN.out h5) ?_)
     exact Ext.ad
   ·have hi:=nemp_bool hs0
    have hne:¬ bs ea=[]:=fun e=>by have:=bs_length ea;rw[e] at this;simp at this;omega
    have hN:nextN ma mi pa (bs ea) 2=some (ma,mi,pa):=by rw[nextN,if_neg (by decide),if_neg (by decide),if_pos rfl,if_neg hne]
    have HN:=Hy hN
    clear hN
    go_wp2_with fail
    refine (Check_any (ma) (mi) (pa) ⟨#[]⟩ _ (hg.ext (Ext.trans hxx ?_)) (by decide)).mono ?_
    ·exact Ext.ad
    rintro e w2 ⟨rfl,hx2⟩
    obtain⟨hc2,hf2⟩:=hx2.cells
    have hz4:=hx2.size
    have hz5:w1.heap.size < w2.heap.size:=by simp at hz4;omega
    have hz6:w.heap.size+1 < w2.heap.size:=by omega
    have hx3:Ext w1 w2:=Ext.trans Ext.ad hx2
    have hx4:Ext w w2:=hxx.trans hx3
    clear hz4
    have hbe:bs { data:=#[] }=[]:=rfl
    by_cases h5:checkV (ma) (mi) (pa) (bs { data:=#[] })=0
    ·have H5:=Hy h5
     rw[h5]
     clear h5
     go_wp2
     refine bodyPost_ret (v:=.tuple #[verVal (ma) (mi) (pa) ⟨#[]⟩,.int .i64 0]) (by simp[results,Tryz.results14,go_sem,hc1,hc2,hz2,hz3]) rfl (post_next (next_ok H0.out HN.out H5.out) ?_)
     exact Ext.ad
    ·go_wp2
     refine bodyPost_ret (v:=.tuple #[verVal 0 0 0 ⟨#[]⟩,.int .i64 3]) (by simp[results,Tryz.results14,go_sem,hc1,hc2,hz2,hz3]) rfl (post_next (next_out H0.out HN.out h5) ?_)
     exact Ext.ad
  have hN:nextN ma mi pa (bs ea) part=none:=by rw[nextN,if_neg hp0,if_neg hp1,if_neg hp2]
  have HN:=Hy hN
  have b0:(part==0)=false:=by simpa using hp0
  have b1:(part==1)=false:=by simpa using hp1
  have b2:(part==2)=false:=by simpa using hp2
  have b3:(part != 2)=true:=by simpa using hp2
  clear hN hp0 hp1 hp2
  go_wp2
  refine bodyPost_ret (v:=.tuple #[verVal 0 0 0 ⟨#[]⟩,.int .i64 3]) (by simp[results,Tryz.results14,go_sem,hc1,hz2]) rfl (post_next (next_none H0.out HN.out) ?_)
  exact Ext.ad
 ·go_wp2
  refine bodyPost_ret (v:=.tuple #[verVal 0 0 0 ⟨#[]⟩,.int .i64 (checkV ma mi pa (bs ea))]) (by simp[results,Tryz.results14,go_sem,hc1]) rfl (post_next (next_err h0) ?_)
  exact Ext.ad
end
section
open Go.RowKit
abbrev verVal' (a1 a2 a3:Int) (a:ByteArray):Value:=.agg #[.int .i64 a1,.int .i64 a2,.int .i64 a3,.string a]
def parseV (l:Str):(Int × Int × Int × Str) × Int :=
 match splitC 46 (cutC 45 l).1 with
 | [x,y,z] =>
   if ((cutC 45 l).2.2&&(cutC 45 l).2.1.isEmpty)=true then ((0,0,0,[]),8)
   else if (numOk x&&numOk y&&numOk z)=false then ((0,0,0,[]),8)
   else if checkV (numV x) (numV y) (numV z) (cutC 45 l).2.1=0 then ((numV x,numV y,numV z,(cutC 45 l).2.1),0)
   else ((0,0,0,[]),checkV (numV x) (numV y) (numV z) (cutC 45 l).2.1)
 | _=>((0,0,0,[]),8)
def ParsePost (l:Str) (w:World) (E:Ending) (w':World):Prop :=
 ∃ b:ByteArray,E=.returned (.tuple #[verVal' (parseV l).1.1 (parseV l).1.2.1 (parseV l).1.2.2.1 b,.int .i64 (parseV l).2])∧bs b=(parseV l).1.2.2.2∧b.size<=l.length∧Ext w w'
theorem post_parse0 {l:Str} {w w':World} {r:Int} (h:parseV l=((0,0,0,[]),r)) (hx:Ext w w'):ParsePost l w (.returned (.tuple #[verVal' 0 0 0 ⟨#[]⟩,.int .i64 r])) w' :=
 ⟨⟨#[]⟩,by rw[h],by rw[h],Nat.zero_le _,hx⟩
theorem parse_count {l:Str} (h:(splitC 46 (cutC 45 l).1).length≠3):parseV l=((0,0,0,[]),8):=by
 unfold parseV
 split
 ·rename_i x y z e;exact absurd (by rw[e];rfl) h
 ·rfl
theorem parse_tail {l:Str} {x y z:Str} (h:splitC 46 (cutC 45 l).1=[x,y,z]) (h2:((cutC 45 l).2.2&&(cutC 45 l).2.1.isEmpty)=true):parseV l=((0,0,0,[]),8):=by
 unfold parseV
 rw[h]
 simp only
 rw[if_pos h2]
theorem parse_num {l:Str} {x y z:Str} (h:splitC 46 (cutC 45 l).1=[x,y,z]) (h2:((cutC 45 l).2.2&&(cutC 45 l).2.1.isEmpty)=false) (h3:(numOk x&&numOk y&&numOk z)=false):parseV l=((0,0,0,[]),8):=by
 unfold parseV
 rw[h]
 simp only
 rw[if_neg (by rw[h2];decide),if_pos h3]
theorem parse_ok {l:Str} {x y z:Str} (h:splitC 46 (cutC 45 l).1=[x,y,z]) (h2:((cutC 45 l).2.2&&(cutC 45 l).2.1.isEmpty)=false) (h3:numOk x=true) (h4:numOk y=true) (h5:numOk z=true) :
 parseV l=if checkV (numV x) (numV y) (numV z) (cutC 45 l).2.1=0 then ((numV x,numV y,numV z,(cutC 45 l).2.1),0) else ((0,0,0,[]),checkV (numV x) (numV y) (numV z) (cutC 45 l).2.1):=by
 unfold parseV
 rw[h]
 simp only
 rw[if_neg (by rw[h2];decide),if_neg (by rw[h3,h4,h5];decide)]
theorem post_parse1 {l:Str} {w w':World} {a1 a2 a3:Int} {b:ByteArray} (h:parseV l=((a1,a2,a3,bs b),0)) (hb:b.size<=l.length) (hx:Ext w w'):ParsePost l w (.returned (.tuple #[verVal' a1 a2 a3 b,.int .i64 0])) w' :=
 ⟨b,by rw[h],by rw[h],hb,hx⟩
theorem three {xs:List ByteArray} (h:xs.length=3):∃ x y z,xs=[x,y,z]:=by
 match xs,h with
 | [x,y,z],_=>exact⟨x,y,z,rfl⟩
set_option maxHeartbeats 2000000 in
theorem Parse_any (s:ByteArray) (w:World) (hg:GoodN w) (hs:s.size<=2097152) :
 Calls Tryz.prog 26 #[.string s] w (ParsePost (bs s) w):=by
 go_enter Tryz.func26,Tryz.ntmps26
 go_wp2_with fail
 refine (cut_ex 45 s _ (hg.toGood.ext Ext.au) hs).mono ?_
 rintro e w1 ⟨nb,eb,fl,rfl,hcut,hsn,hse,hx1⟩
 have HCUT:=Hy hcut
 clear hcut
 go_wp2_with fail
 refine (split_any 46 nb _ ((hg.toGood.ext Ext.au).ext hx1) (by omega)).mono ?_
 rintro e w2 ⟨b,xs,rfl,hb0,hst,hxs,hx2⟩
 have hxx:Ext w w2:=(Ext.trans Ext.au hx1).trans hx2
 have hR:=((Blk.new w 23 #[.int .i64 0,.int .i64 0,.int .i64 0,.string ⟨#[]⟩]).ext hx1).ext hx2
 have rc:=hR.cell
 have rf:=hR.free
 have rl:=hR.lt
 by_cases h3:xs.length=3
 ·obtain⟨x,y,z,rfl⟩:=three h3
  have hsp:splitC 46 (cutC 45 (bs s)).1=[bs x,bs y,bs z]:=by rw[HCUT.out,<-hxs];rfl
  have HSP:=Hy hsp
  have c0:w2.cell? ⟨b,0,none⟩=some (.string x):=hst.cell 0 (by simp)
  have c1:w2.cell? ⟨b,1,none⟩=some (.string y):=hst.cell 1 (by simp)
  have c2:w2.cell? ⟨b,2,none⟩=some (.string z):=hst.cell 2 (by simp)
  have sx:x.size<=nb.size:=piece_le hxs (k:=0) (by simp)
  have sy:y.size<=nb.size:=piece_le hxs (k:=1) (by simp)
  have sz:z.size<=nb.size:=piece_le hxs (k:=2) (by simp)
  have hbl:=hst.lt
  clear h3 hxs hst hsp
  have htail:(cutC 45 (bs s)).2.2=fl∧(cutC 45 (bs s)).2.1=bs eb:=by rw[HCUT.out];exact⟨rfl,rfl⟩
  have HT:=Hy htail
  clear htail
  by_cases ht:fl=true∧eb.size=0
  ·obtain⟨rfl,he0⟩:=ht
   have hi:=emp_bool he0
   have hp:parseV (bs s)=((0,0,0,[]),8):=parse_tail HSP.out (by rw[HT.out.1,HT.out.2,bs_nil he0];rfl)
   have HP:=Hy hp
   clear hp
   go_wp2
   refine bodyPost_ret (v:=.tuple #[verVal' 0 0 0 ⟨#[]⟩,.int .i64 8]) (by simp[results,Tryz.results26,go_sem,rc]) rfl (post_parse0 HP.out ?_)
   exact Ext.ad
  have hT2:((cutC 45 (bs s)).2.2&&(cutC 45 (bs s)).2.1.isEmpty)=false:=by
   rw[HT.out.1,HT.out.2]
   cases fl
   ·rfl
   ·rcases Nat.eq_zero_or_pos eb.size with h0|h0
    ·exact absurd ⟨rfl,h0⟩ ht
    ·have:=nemp_bool h0
     rw[ByteArray.toList_eq] at this
     rw[this];rfl
  have HT2:=Hy hT2
  clear hT2
  have hq:fl=false∨(fl=true∧0 < eb.size):=by
   cases fl
   ·exact .inl rfl
   ·exact .inr ⟨rfl,Nat.pos_of_ne_zero fun h0=>ht ⟨rfl,h0⟩⟩
  clear ht
  rcases hq with rfl|⟨rfl,hq0⟩
  rotate_left
  ·have hi:=nemp_bool hq0
   go_wp2
   go_loopw [36] (fun i wr=>((i=.int .i64 0∧Blk wr w2.heap.size 115 #[.int .i64 0,.int .i64 0,.int .i64 0])∨(i=.int .i64 1∧numOk (bs x)=true∧Blk wr w2.heap.size 115 #[.int .i64 (numV (bs x)),.int .i64 0,.int .i64 0])∨(i=.int .i64 2∧numOk (bs x)=true∧numOk (bs y)=true∧Blk wr w2.heap.size 115 #[.int .i64 (numV (bs x)),.int .i64 (numV (bs y)),.int .i64 0])∨(i=.int .i64 3∧numOk (bs x)=true∧numOk (bs y)=true∧numOk (bs z)=true∧Blk wr w2.heap.size 115 #[.int .i64 (numV (bs x)),.int .i64 (numV (bs y)),.int .i64 (numV (bs z))]))∧Ext w2 wr) (fun i _=>3 - (intOf i).toNat)
   case atStart=>exact⟨.inl ⟨rfl,Blk.new w2 _ _⟩,(Ext.refl w2).alloc _⟩
   case round =>
    obtain⟨hi,hxr⟩:=hrel
    have rr:=hR.ext hxr
    have d0:=hxr.cell c0
    have d1:=hxr.cell c1
    have d2:=hxr.cell c2
    have gr:=((hg.ext Ext.au).ext hx1).ext (hx2.trans hxr)
    clear rc rf rl c0 c1 c2
    rcases hi with ⟨rfl,hA⟩|⟨rfl,o0,hA⟩|⟨rfl,o0,o1,hA⟩|⟨rfl,o0,o1,o2,hA⟩
    ·skip
     go_wp2_with fail
     refine (number_any x _ gr (by omega)).mono ?_
     rintro e w3 ⟨rfl,hx3⟩
     have hA3:=hA.ext hx3
     have ac:=hA3.cell
     have af:=hA3.free
     have rr3:=rr.ext hx3
     have rc:=rr3.cell
     have rf:=rr3.free
     cases hk:numOk (bs x)
     ·have HP:=Hy (parse_num HSP.out HT2.out (by rw[hk];simp))
      clear hk ac af
      go_wp2
      refine bodyPost_ret (v:=.tuple #[verVal' 0 0 0 ⟨#[]⟩,.int .i64 8]) (by simp[results,Tryz.results26,go_sem,rc]) rfl (post_parse0 HP.out ?_)
      have hx4:Ext w w3:=(hxx.trans hxr).trans hx3
      exact Ext.ad
     ·have OK:=Hy hk
      clear hk rc rf
      go_wp2
      go_roundw
      case rel=>exact⟨.inr (.inl ⟨rfl,OK.out,hA3.set 0 _⟩),Ext.setCell (hxr.trans hx3) (Nat.le_refl _) _⟩
      case measure=>decide
    ·have O0:=Hy o0;clear o0
     go_wp2_with fail
     refine (number_any y _ gr (by omega)).mono ?_
     rintro e w3 ⟨rfl,hx3⟩
     have hA3:=hA.ext hx3
     have ac:=hA3.cell
     have af:=hA3.free
     have rr3:=rr.ext hx3
     have rc:=rr3.cell
     have rf:=rr3.free
     cases hk:numOk (bs y)
     ·have HP:=Hy (parse_num HSP.out HT2.out (by rw[hk,O0.out];simp))
      clear hk ac af
      go_wp2
      refine bodyPost_ret (v:=.tuple #[verVal' 0 0 0 ⟨#[]⟩,.int .i64 8]) (by simp[results,Tryz.results26,go_sem,rc]) rfl (post_parse0 HP.out ?_)
      have hx4:Ext w w3:=(hxx.trans hxr).trans hx3
      exact Ext.ad
     ·have OK:=Hy hk
      clear hk rc rf
      go_wp2
      go_roundw
      case rel=>exact⟨.inr (.inr (.inl ⟨rfl,O0.out,OK.out,hA3.set 1 _⟩)),Ext.setCell (hxr.trans hx3) (Nat.le_refl _) _⟩
      case measure=>decide
    ·have O0:=Hy o0;have O1:=Hy o1;clear o0 o1
     go_wp2_with fail
     refine (number_any z _ gr (by omega)).mono ?_
     rintro e w3 ⟨rfl,hx3⟩
     have hA3:=hA.ext hx3
     have ac:=hA3.cell
     have af:=hA3.free
     have rr3:=rr.ext hx3
     have rc:=rr3.cell
     have rf:=rr3.free
     cases hk:numOk (bs z)
     ·have HP:=Hy (parse_num HSP.out HT2.out (by rw[hk,O0.out,O1.out];simp))
      clear hk ac af
      go_wp2
      refine bodyPost_ret (v:=.tuple #[verVal' 0 0 0 ⟨#[]⟩,.int .i64 8]) (by simp[results,Tryz.results26,go_sem,rc]) rfl (post_parse0 HP.out ?_)
      have hx4:Ext w w3:=(hxx.trans hxr).trans hx3
      exact Ext.ad
     ·have OK:=Hy hk
      clear hk rc rf
      go_wp2
      go_roundw
      case rel=>exact⟨.inr (.inr (.inr (⟨rfl,O0.out,O1.out,OK.out,hA3.set 2 _⟩))),Ext.setCell (hxr.trans hx3) (Nat.le_refl _) _⟩
      case measure=>decide
    ·have O0:=Hy o0;have O1:=Hy o1;have O2:=Hy o2;clear o0 o1 o2
     have ac:=hA.cell
     have rc:=rr.cell
     have rf:=rr.free
     have rl:=rr.lt
     have hp:=parse_ok HSP.out HT2.out O0.out O1.out O2.out
     rw[HT.out.2] at hp
     have HP:=Hy hp
     clear hp
     go_wp2_with fail
     refine (Check_any _ _ _ eb _ (gr.toGood.ext Ext.au) (by omega)).mono ?_
     rintro e w3 ⟨rfl,hx3⟩
     have hx4:Ext w w3:=Ext.trans (Ext.trans (hxx.trans hxr) Ext.au) hx3
     have rr3:=(rr.alloc _).ext hx3
     have rc3:=rr3.cell
     have rf3:=rr3.free
     obtain⟨hc3,hf3⟩:=hx3.cells
     clear ac rc rf
     have vb:=(Blk.new wr 23 #[.int .i64 (numV (bs x)),.int .i64 (numV (bs y)),.int .i64 (numV (bs z)),.string eb]).ext hx3
     have vc:=vb.cell
     by_cases h5:checkV (numV (bs x)) (numV (bs y)) (numV (bs z)) (bs eb)=0
     ·have H5:=Hy h5
      rw[h5]
      clear h5
      go_wp2
      refine bodyPost_ret (v:=.tuple #[verVal' (numV (bs x)) (numV (bs y)) (numV (bs z)) eb,.int .i64 0]) (by simp[results,Tryz.results26,go_sem,rc3]) rfl (post_parse1 (by rw[HP.out,if_pos H5.out]) (by rw[bs_length];exact hse) ?_)
      exact Ext.ad
     ·have H5:=Hy h5
      go_wp2
      refine bodyPost_ret (v:=.tuple #[verVal' 0 0 0 ⟨#[]⟩,.int .i64 (checkV (numV (bs x)) (numV (bs y)) (numV (bs z)) (bs eb))]) (by simp[results,Tryz.results26,go_sem,rc3]) rfl (post_parse0 (by rw[HP.out,if_neg H5.out]) ?_)
      exact Ext.ad
  ·go_wp2
   go_loopw [36] (fun i wr=>((i=.int .i64 0∧Blk wr w2.heap.size 115 #[.int .i64 0,.int .i64 0,.int .i64 0])∨(i=.int .i64 1∧numOk (bs x)=true∧Blk wr w2.heap.size 115 #[.int .i64 (numV (bs x)),.int .i64 0,.int .i64 0])∨(i=.int .i64 2∧numOk (bs x)=true∧numOk (bs y)=true∧Blk wr w2.heap.size 115 #[.int .i64 (numV (bs x)),.int .i64 (numV (bs y)),.int .i64 0])∨(i=.int .i64 3∧numOk (bs x)=true∧numOk (bs y)=true∧numOk (bs z)=true∧Blk wr w2.heap.size 115 #[.int .i64 (numV (bs x)),.int .i64 (numV (bs y)),.int .i64 (numV (bs z))]))∧Ext w2 wr) (fun i _=>3 - (intOf i).toNat)
   case atStart=>exact⟨.inl ⟨rfl,Blk.new w2 _ _⟩,(Ext.refl w2).alloc _⟩
   case round =>
    obtain⟨hi,hxr⟩:=hrel
    have rr:=hR.ext hxr
    have d0:=hxr.cell c0
    have d1:=hxr.cell c1
    have d2:=hxr.cell c2
    have gr:=((hg.ext Ext.au).ext hx1).ext (hx2.trans hxr)
    clear rc rf rl c0 c1 c2
    rcases hi with ⟨rfl,hA⟩|⟨rfl,o0,hA⟩|⟨rfl,o0,o1,hA⟩|⟨rfl,o0,o1,o2,hA⟩
    ·skip
     go_wp2_with fail
     refine (number_any x _ gr (by omega)).mono ?_
     rintro e w3 ⟨rfl,hx3⟩
     have hA3:=hA.ext hx3
     have ac:=hA3.cell
     have af:=hA3.free
     have rr3:=rr.ext hx3
     have rc:=rr3.cell
     have rf:=rr3.free
     cases hk:numOk (bs x)
     ·have HP:=Hy (parse_num HSP.out HT2.out (by rw[hk];simp))
      clear hk ac af
      go_wp2
      refine bodyPost_ret (v:=.tuple #[verVal' 0 0 0 ⟨#[]⟩,.int .i64 8]) (by simp[results,Tryz.results26,go_sem,rc]) rfl (post_parse0 HP.out ?_)
      have hx4:Ext w w3:=(hxx.trans hxr).trans hx3
      exact Ext.ad
     ·have OK:=Hy hk
      clear hk rc rf
      go_wp2
      go_roundw
      case rel=>exact⟨.inr (.inl ⟨rfl,OK.out,hA3.set 0 _⟩),Ext.setCell (hxr.trans hx3) (Nat.le_refl _) _⟩
      case measure=>decide
    ·have O0:=Hy o0;clear o0
     go_wp2_with fail
     refine (number_any y _ gr (by omega)).mono ?_
     rintro e w3 ⟨rfl,hx3⟩
     have hA3:=hA.ext hx3
     have ac:=hA3.cell
     have af:=hA3.free
     have rr3:=rr.ext hx3
     have rc:=rr3.cell
     have rf:=rr3.free
     cases hk:numOk (bs y)
     ·have HP:=Hy (parse_num HSP.out HT2.out (by rw[hk,O0.out];simp))
      clear hk ac af
      go_wp2
      refine bodyPost_ret (v:=.tuple #[verVal' 0 0 0 ⟨#[]⟩,.int .i64 8]) (by simp[results,Tryz.results26,go_sem,rc]) rfl (post_parse0 HP.out ?_)
      have hx4:Ext w w3:=(hxx.trans hxr).trans hx3
      exact Ext.ad
     ·have OK:=Hy hk
      clear hk rc rf
      go_wp2
      go_roundw
      case rel=>exact⟨.inr (.inr (.inl ⟨rfl,O0.out,OK.out,hA3.set 1 _⟩)),Ext.setCell (hxr.trans hx3) (Nat.le_refl _) _⟩
      case measure=>decide
    ·have O0:=Hy o0;have O1:=Hy o1;clear o0 o1
     go_wp2_with fail
     refine (number_any z _ gr (by omega)).mono ?_
     rintro e w3 ⟨rfl,hx3⟩
     have hA3:=hA.ext hx3
     have ac:=hA3.cell
     have af:=hA3.free
     have rr3:=rr.ext hx3
     have rc:=rr3.cell
     have rf:=rr3.free
     cases hk:numOk (bs z)
     ·have HP:=Hy (parse_num HSP.out HT2.out (by rw[hk,O0.out,O1.out];simp))
      clear hk ac af
      go_wp2
      refine bodyPost_ret (v:=.tuple #[verVal' 0 0 0 ⟨#[]⟩,.int .i64 8]) (by simp[results,Tryz.results26,go_sem,rc]) rfl (post_parse0 HP.out ?_)
      have hx4:Ext w w3:=(hxx.trans hxr).trans hx3
      exact Ext.ad
     ·have OK:=Hy hk
      clear hk rc rf
      go_wp2
      go_roundw
      case rel=>exact⟨.inr (.inr (.inr (⟨rfl,O0.out,O1.out,OK.out,hA3.set 2 _⟩))),Ext.setCell (hxr.trans hx3) (Nat.le_refl _) _⟩
      case measure=>decide
    ·have O0:=Hy o0;have O1:=Hy o1;have O2:=Hy o2;clear o0 o1 o2
     have ac:=hA.cell
     have rc:=rr.cell
     have rf:=rr.free
     have rl:=rr.lt
     have hp:=parse_ok HSP.out HT2.out O0.out O1.out O2.out
     rw[HT.out.2] at hp
     have HP:=Hy hp
     clear hp
     go_wp2_with fail
     refine (Check_any _ _ _ eb _ (gr.toGood.ext Ext.au) (by omega)).mono ?_
     rintro e w3 ⟨rfl,hx3⟩
     have hx4:Ext w w3:=Ext.trans (Ext.trans (hxx.trans hxr) Ext.au) hx3
     have rr3:=(rr.alloc _).ext hx3
     have rc3:=rr3.cell
     have rf3:=rr3.free
     obtain⟨hc3,hf3⟩:=hx3.cells
     clear ac rc rf
     have vb:=(Blk.new wr 23 #[.int .i64 (numV (bs x)),.int .i64 (numV (bs y)),.int .i64 (numV (bs z)),.string eb]).ext hx3
     have vc:=vb.cell
     by_cases h5:checkV (numV (bs x)) (numV (bs y)) (numV (bs z)) (bs eb)=0
     ·have H5:=Hy h5
      rw[h5]
      clear h5
      go_wp2
      refine bodyPost_ret (v:=.tuple #[verVal' (numV (bs x)) (numV (bs y)) (numV (bs z)) eb,.int .i64 0]) (by simp[results,Tryz.results26,go_sem,rc3]) rfl (post_parse1 (by rw[HP.out,if_pos H5.out]) (by rw[bs_length];exact hse) ?_)
      exact Ext.ad
     ·have H5:=Hy h5
      go_wp2
      refine bodyPost_ret (v:=.tuple #[verVal' 0 0 0 ⟨#[]⟩,.int .i64 (checkV (numV (bs x)) (numV (bs y)) (numV (bs z)) (bs eb))]) (by simp[results,Tryz.results26,go_sem,rc3]) rfl (post_parse0 (by rw[HP.out,if_neg H5.out]) ?_)
      exact Ext.ad
 ·have b3:((xs.length:Int) != 3)=true:=by rw[bne_iff_ne];omega
  have hp:parseV (bs s)=((0,0,0,[]),8):=parse_count (by rw[HCUT.out,<-hxs,List.length_map];exact h3)
  have HP:=Hy hp
  clear hp h3 hxs hst
  go_wp2
  refine bodyPost_ret (v:=.tuple #[verVal' 0 0 0 ⟨#[]⟩,.int .i64 8]) (by simp[results,Tryz.results26,go_sem,rc]) rfl (post_parse0 HP.out ?_)
  exact Ext.ad
end
section
open Go.RowKit
set_option maxHeartbeats 1000000 in
theorem ValueOf_any (s:ByteArray) (w:World) (hs:s.size<=2097152) :
 Calls Tryz.prog 23 #[.string s] w fun e w'=>e=.returned (.bool (valueL (bs s)))∧w=w':=by
 go_enter Tryz.func23,Tryz.ntmps23
 go_wp2
 go_loop [6] (fun i=>∃ k:Nat,k<=s.size∧i=.int .i64 k∧(s.data.toList.take k).all valueB=true) (fun i=>s.size - (intOf i).toNat)
 case atStart=>exact⟨0,Nat.zero_le _,rfl,by simp⟩
 case round =>
  obtain⟨k,hk,rfl,hall⟩:=hrel
  have HALL:=Hy hall
  clear hall
  by_cases hlt:k < s.size
  ·have hfa:=all_false_of valueB s k hlt
   have hsu:=all_take_succ valueB s k hlt
   have HFA:=Hy hfa
   have HSU:=Hy hsu
   clear hfa hsu
   by_cases h1:s[k].toNat < 32
   ·have h1':((s[k].toNat:Nat):Int) < 32:=by omega
    have hv:valueB s[k]=false:=by simp[valueB];omega
    have HV:=Hy (HFA.out hv)
    clear hv h1
    go_wp2
    go_ret
    exact⟨ret_bool (by rw[valueL,show (bs s).all valueB=false from HV.out];rfl),rfl⟩
   ·have h1':¬ ((s[k].toNat:Nat):Int) < 32:=by omega
    by_cases h2:126 < s[k].toNat
    ·have h2':(126:Int) < ((s[k].toNat:Nat):Int):=by omega
     have hv:valueB s[k]=false:=by simp[valueB];omega
     have HV:=Hy (HFA.out hv)
     clear hv h1 h2
     go_wp2
     go_ret
     exact⟨ret_bool (by rw[valueL,show (bs s).all valueB=false from HV.out];rfl),rfl⟩
    ·have h2':¬ (126:Int) < ((s[k].toNat:Nat):Int):=by omega
     have hv:valueB s[k]=true:=by simp[valueB];omega
     have HV:=Hy hv
     clear hv h1 h2
     go_wp2
     go_round
     case rel=>exact⟨k+1,by omega,by go_num,by rw[HSU.out,HALL.out,HV.out];rfl⟩
     case measure=>simp[intOf];omega
  ·obtain rfl:k=s.size:=by omega
   go_wp2
   go_ret
   refine⟨ret_bool ?_,rfl⟩
   rw[take_size] at HALL
   rw[valueL,show (bs s).all valueB=true from HALL.out,bs_length]
   simp
   omega
theorem numOk_eq (l:Str):numOk l=((l != [])&&decide (l.length<=9)&&l.all digitB&&!(decide (1 < l.length)&&(l.headD 0==48))):=by
 unfold numOk eachL
 cases l with
 | nil=>simp
 | cons x r =>
   have h1:decide (0 < (x::r).length)=true:=by simp
   have h2:((x::r) != ([]:Str))=true:=rfl
   rw[h1,h2]
   by_cases hx:x=48
   ·subst hx
    cases r with
    | nil=>decide
    | cons y t =>
      have h3:((48::y::t:Str) != [48])=true:=rfl
      have h4:decide (1 < (48::y::t:Str).length)=true:=by simp
      rw[h3,h4]
      generalize (48::y::t:Str).all digitB=a
      generalize decide ((48::y::t:Str).length<=9)=b
      cases a<;>cases b<;>rfl
   ·have h3:(((x::r:Str).headD 0)==48)=false:=by simpa using hx
    rw[h3]
    generalize (x::r:Str).all digitB=a
    generalize decide ((x::r:Str).length<=9)=b
    generalize ((x::r:Str) != [48])=c
    generalize decide (1 < (x::r:Str).length)=d
    cases a<;>cases b<;>cases c<;>cases d<;>rfl
set_option maxHeartbeats 2000000 in
theorem Number_any (s:ByteArray) (w:World) (hg:GoodN w) (hs:s.size<=2097152) :
 Calls Tryz.prog 88 #[.string s,.int .i64 9] w fun e w'=>e=.returned (.tuple #[.int .i64 (numV (bs s)),.bool (numOk (bs s))])∧Ext w w':=by
 have hpl:=numOk_eq (bs s)
 have HPL:=Hy hpl
 clear hpl
 have hno:numOk (bs s)=false->numV (bs s)=0:=fun h=>by rw[numV,h];rfl
 have HNO:=Hy hno
 clear hno
 go_enter Tryz.func88,Tryz.ntmps88
 rcases Nat.eq_zero_or_pos s.size with hz|hz
 ·have hi:=emp_bool hz
  have hp:numOk (bs s)=false:=by rw[HPL.out,bs_nil hz];rfl
  have HP:=Hy hp
  clear hp
  go_wp2
  go_ret2
  exact⟨by rw[HNO.out HP.out,HP.out];rfl,Ext.refl _⟩
 have hi:=nemp_bool hz
 have e1:(bs s != ([]:Str))=true:=by
  rw[bne_iff_ne];intro e;have:=bs_length s;rw[e] at this;simp at this;omega
 by_cases h9:9 < s.size
 ·have hp:numOk (bs s)=false:=by rw[HPL.out,bs_length,decide_eq_false (by omega:¬ s.size<=9)];simp
  have HP:=Hy hp
  clear hp e1
  go_wp2
  go_ret2
  exact⟨by rw[HNO.out HP.out,HP.out];rfl,Ext.refl _⟩
 have e2:decide (s.size<=9)=true:=decide_eq_true (by omega)
 go_wp2_with fail
 refine (of_digit s _ hs).mono ?_
 rintro e w1 ⟨rfl,hx1⟩
 cases hd:(bs s).all digitB
 ·have hp:numOk (bs s)=false:=by rw[HPL.out,hd];simp
  have HP:=Hy hp
  clear hp hd e1 e2
  go_wp2
  go_ret2
  exact⟨by rw[HNO.out HP.out,HP.out];rfl,hx1⟩
 have hq:numOk (bs s)=!(decide (1 < s.size)&&(s[0]==48)):=by
  rw[HPL.out,e1,hd,bs_length,e2,head_bs s hz];simp
 have HQ:=Hy hq
 have hV:numOk (bs s)=true->numV (bs s)=(decVal (bs s):Nat)∧Lib.atoiAll (bs s)=.ok ((decVal (bs s):Nat):Int):=fun h =>
  ⟨by rw[numV,if_pos h],atoi_digits _ hd (by rw[bs_length];exact hz) (by rw[bs_length];omega)⟩
 have HV:=Hy hV
 clear hq hV hd e1 e2
 by_cases h1:1 < s.size
 ·by_cases h48:s[0].toNat=48
  ·have h48':((s[0].toNat:Nat):Int)=48:=by omega
   have hp:numOk (bs s)=false:=by
    have:s[0]=48:=UInt8.toNat_inj.1 h48
    rw[HQ.out,this,decide_eq_true h1];rfl
   have HP:=Hy hp
   have hb:(((s[0].toNat:Nat):Int)==48)=true:=by rw[beq_iff_eq];exact h48'
   have HB:=Hy hb
   clear hp h48 h48' hb
   have hb:=HB.out
   go_wp2
   go_ret2
   exact⟨by rw[HNO.out HP.out,HP.out];rfl,hx1⟩
  ·have hb:(((s[0].toNat:Nat):Int)==48)=false:=by rw[beq_eq_false_iff_ne];omega
   have hp:numOk (bs s)=true:=by
    have:(s[0]==48)=false:=by rw[beq_eq_false_iff_ne];intro e;rw[e] at h48;exact h48 rfl
    rw[HQ.out,this];simp
   have HP:=Hy hp
   clear hp h48
   go_wp2_with fail
   refine (atoi_any s _ (hg.ext hx1) hs).mono ?_
   rintro e w2 ⟨v,ev,rfl,hx2,hv,hev⟩
   obtain⟨rfl,rfl⟩:=hv _ (HV.out HP.out).2
   clear hv hev
   go_wp2_with fail
   refine wp_region_ext (by kernel_rfl) (by kernel_rfl) ?_
   repeat (first|go_big_quiet_skip|(refine wpQuiet_step (fun K hK=>?_);go_simp;first|(refine hK _ ?_;clear hK K)|(apply Exists.intro;refine⟨fun wq hwq=>?_,hK _ ?_⟩;(obtain⟨hqc,hqf⟩:=hwq.cells;have hqs:=hwq.size;(try go_simp);first|rfl|((first|rw[if_neg (by omega)]|rw[if_pos (by omega)]);(try go_simp);rfl)|((fail)));clear hK K)))
   refine wpQuiet_nil ?_
   intro wN hxN
   obtain⟨hcN,hfN⟩:=hxN.cells
   have hsN:=hxN.size
   go_wp2
   go_ret2
   exact⟨by rw[(HV.out HP.out).1,HP.out];rfl,(hx1.trans hx2).trans hxN⟩
 ·have hp:numOk (bs s)=true:=by rw[HQ.out,decide_eq_false h1];rfl
  have HP:=Hy hp
  clear hp
  go_wp2_with fail
  refine (atoi_any s _ (hg.ext hx1) hs).mono ?_
  rintro e w2 ⟨v,ev,rfl,hx2,hv,hev⟩
  obtain⟨rfl,rfl⟩:=hv _ (HV.out HP.out).2
  clear hv hev
  go_wp2_with fail
  refine wp_region_ext (by kernel_rfl) (by kernel_rfl) ?_
  repeat (first|go_big_quiet_skip|(refine wpQuiet_step (fun K hK=>?_);go_simp;first|(refine hK _ ?_;clear hK K)|(apply Exists.intro;refine⟨fun wq hwq=>?_,hK _ ?_⟩;(obtain⟨hqc,hqf⟩:=hwq.cells;have hqs:=hwq.size;(try go_simp);first|rfl|((first|rw[if_neg (by omega)]|rw[if_pos (by omega)]);(try go_simp);rfl)|((fail)));clear hK K)))
  refine wpQuiet_nil ?_
  intro wN hxN
  obtain⟨hcN,hfN⟩:=hxN.cells
  have hsN:=hxN.size
  go_wp2
  go_ret2
  exact⟨by rw[(HV.out HP.out).1,HP.out];rfl,(hx1.trans hx2).trans hxN⟩
set_option maxHeartbeats 1000000 in
theorem VersionText_any (ma mi pa:Int) (ea:ByteArray) (w:World) (hg:GoodN w) (hs:ea.size<=2097152) (h1:0<=ma) (h2:ma<=999999) (h3:0<=mi) (h4:mi<=999999) (h5:0<=pa) (h6:pa<=999999) :
 Calls Tryz.prog 24 #[.agg #[.int .i64 ma,.int .i64 mi,.int .i64 pa,.string ea]] w fun e w'=>e=.returned (S (textL ma mi pa (bs ea)))∧Ext w w':=by
 have la:=Lib.itoa_length_le ma (by omega) (by omega)
 have li:=Lib.itoa_length_le mi (by omega) (by omega)
 have lp:=Lib.itoa_length_le pa (by omega) (by omega)
 go_enter Tryz.func24,Tryz.ntmps24
 go_wp2_with fail
 refine wp_region_ext (by kernel_rfl) (by kernel_rfl) ?_
 repeat (first|go_big_quiet_skip|(refine wpQuiet_step (fun K hK=>?_);go_simp;first|(refine hK _ ?_;clear hK K)|(apply Exists.intro;refine⟨fun wq hwq=>?_,hK _ ?_⟩;(obtain⟨hqc,hqf⟩:=hwq.cells;have hqs:=hwq.size;(try go_simp);first|rfl|((first|rw[if_neg (by omega)]|rw[if_pos (by omega)]);(try go_simp);rfl)|((go_at_call 82;refine (itoa_any _ _ (hg.ext (Ext.trans Ext.au hwq)) (by omega) (by omega)).mono (fun e w'' h=>⟨h.1,hwq.trans h.2⟩))));clear hK K)))
 refine wpQuiet_nil ?_
 intro wN hxN
 obtain⟨hcN,hfN⟩:=hxN.cells
 have hsN:=hxN.size
 rcases Nat.eq_zero_or_pos ea.size with h0|h0
 ·have he:=emp_of_size h0
  go_wp2
  go_ret
  refine⟨ret_strS ?_,Ext.trans Ext.au hxN⟩
  simp[textL,bs_nil h0]
 ·have he:=nemp_of_size h0
  have hi:=nemp_bool h0
  have he2:¬ bs ea=[]:=fun e=>by have:=bs_length ea;rw[e] at this;simp at this;omega
  go_wp2
  go_ret
  refine⟨ret_strS ?_,Ext.trans Ext.au hxN⟩
  simp[textL,he2]
end
section
open Go.RowKit
set_option maxRecDepth 100000 in
set_option maxHeartbeats 8000000 in
theorem quotedAtV_any (s:ByteArray) (i:Nat) (w:World) (hs:s.size<=2097152) (hi:i<=2097152) :
 Calls Tryz.prog 167 #[.string s,.int .i64 i] w fun e w'=>e=.returned (.tuple #[S (qat (bs s) i).1,.int .i64 (qat (bs s) i).2.1,.bool (qat (bs s) i).2.2])∧Ext w w':=by
 obtain⟨R,hR⟩:∃ R,unq ((bs s).drop (i+1))=R:=⟨_,rfl⟩
 have hq:qat (bs s) i=qatR s.size R:=by rw[qat,hR,bs_length]
 have hst:=invQ_start (bs s) (i+1)
 rw[hR] at hst
 rw[hq]
 have HST:=Hy hst
 clear hst hq hR
 go_enter Tryz.func167,Tryz.ntmps167
 go_wp2
 go_loopw [7,8] (fun v k' wr=>∃ (k:Nat) (done:Str),k'=.int .i64 k∧wr.ownsRow w.heap.size 5 1 v done.length (u8s done)∧k<=2097153∧(k<=s.size∨done=[])∧done.length<=k∧InvQ (bs s) R k done∧Ext w wr) (fun _ k _=>s.size - (intOf k).toNat)
 case atStart=>exact⟨i+1,[],by go_num,World.ownsRow_nil _ _ _ _,by omega,.inr rfl,Nat.zero_le _,HST.out,Ext.refl _⟩
 case round =>
  obtain⟨k,done,rfl,hown,hk2,hk1,hk3,hinv,hxr⟩:=hrel
  have HINV:=Hy hinv
  clear hinv
  by_cases hlt:k < s.size
  ·by_cases h34:s[k]=34
   ·have e1:((s[k].toNat:Int)==34)=true:=by rw[h34];rfl
    have hres:=invQ_end HINV.out hlt h34
    subst hres
    have hcv:=conv_own hown wr (Ext.refl wr)
    have hkk:(k:Int)+1<=s.size:=by omega
    have hkw:IntKind.i64.wrap ((k:Int)+1)=(k:Int)+1:=by rw[IntKind.wrap_i64];omega
    clear h34 hown
    go_wp2
    go_ret3
    refine⟨?_,hxr⟩
    have hl:s.size - ((bs s).drop (k+1)).length=k+1:=by rw[List.length_drop,bs_length];omega
    simp only[qatR,hl]
    go_num
   have e1:=byte_no h34 34 rfl
   by_cases h92:s[k]=92
   ·have e2:((s[k].toNat:Int)==92)=true:=by rw[h92];rfl
    by_cases hend:k+1=s.size
    ·have hres:=invQ_last HINV.out hend h92
     subst hres
     have hE:((k:Int)+1==(s.size:Int))=true:=by rw[beq_iff_eq];omega
     clear h34 h92
     go_wp2
     go_ret3
     exact⟨rfl,hxr⟩
    have hlt2:k+1 < s.size:=by omega
    have hE:((k:Int)+1==(s.size:Int))=false:=by rw[beq_eq_false_iff_ne];omega
    by_cases hok:s[k+1]=34∨s[k+1]=92
    ·have hinv2:=invQ_two HINV.out hlt2 h92 hok
     have HI2:=Hy hinv2
     clear hinv2 h34 h92
     rcases hok with hd|hd
     ·have e3:((s[k+1].toNat:Int) != 34)=false:=by rw[hd];rfl
      clear hd
      have HX:=Hy hxr
      have hsz:=hxr.size
      go_wp2_with (at_builtin;refine wpList_app1 _ _ _ rfl _ _ 202 rfl (.int .u8 0) 1 1 Tryz.underlying202 info_u8 rfl (by decide) (by decide) w.heap.size _ done.length _ rfl hown _ rfl rfl (by simp[Value.oneCell']) (by omega) hsz ?_;intro v' w3 hown3 hx3 _)
      go_roundw
      case rel=>exact⟨k+1+1,done++[s[k+1]],by go_num,by rw[u8s_append,List.length_append];exact hown3,by omega,.inl (by omega),by rw[List.length_append];simp;omega,HI2.out,hx3 _ HX.out (Nat.le_refl _)⟩
      case measure=>simp[intOf];omega
     ·have e3:((s[k+1].toNat:Int) != 34)=true:=by rw[hd];rfl
      have e4:((s[k+1].toNat:Int) != 92)=false:=by rw[hd];rfl
      clear hd
      have HX:=Hy hxr
      have hsz:=hxr.size
      go_wp2_with (at_builtin;refine wpList_app1 _ _ _ rfl _ _ 202 rfl (.int .u8 0) 1 1 Tryz.underlying202 info_u8 rfl (by decide) (by decide) w.heap.size _ done.length _ rfl hown _ rfl rfl (by simp[Value.oneCell']) (by omega) hsz ?_;intro v' w3 hown3 hx3 _)
      go_roundw
      case rel=>exact⟨k+1+1,done++[s[k+1]],by go_num,by rw[u8s_append,List.length_append];exact hown3,by omega,.inl (by omega),by rw[List.length_append];simp;omega,HI2.out,hx3 _ HX.out (Nat.le_refl _)⟩
      case measure=>simp[intOf];omega
    ·have hres:=invQ_bad HINV.out hlt2 h92 (fun e=>hok (.inl e)) (fun e=>hok (.inr e))
     have e3:=byte_ne (fun e=>hok (.inl e)) 34 rfl
     have e4:=byte_ne (fun e=>hok (.inr e)) 92 rfl
     subst hres
     clear h34 h92 hok
     go_wp2
     go_ret3
     exact⟨rfl,hxr⟩
   ·have e2:=byte_no h92 92 rfl
    have hinv2:=invQ_one HINV.out hlt h34 h92
    have HI2:=Hy hinv2
    clear hinv2 h34 h92
    have HX:=Hy hxr
    have hsz:=hxr.size
    go_wp2_with (at_builtin;refine wpList_app1 _ _ _ rfl _ _ 202 rfl (.int .u8 0) 1 1 Tryz.underlying202 info_u8 rfl (by decide) (by decide) w.heap.size _ done.length _ rfl hown _ rfl rfl (by simp[Value.oneCell']) (by omega) hsz ?_;intro v' w3 hown3 hx3 _)
    go_roundw
    case rel=>exact⟨k+1,done++[s[k]],by go_num,by rw[u8s_append,List.length_append];exact hown3,by omega,.inl (by omega),by rw[List.length_append];simp;omega,HI2.out,hx3 _ HX.out (Nat.le_refl _)⟩
    case measure=>simp[intOf];omega
  ·have hres:=invQ_out HINV.out (by omega)
   subst hres
   go_wp2
   go_ret3
   exact⟨rfl,hxr⟩
def blankB (c:UInt8):Bool:=c==32||c==9
theorem isBlank_any (c:UInt8) (w:World) :
 Calls Tryz.prog 166 #[.int .u8 c.toNat] w fun e w'=>e=.returned (.bool (blankB c))∧w=w':=by
 have hb:blankB c=(decide ((c.toNat:Int)=32)||decide ((c.toNat:Int)=9)):=by
  have h (n:UInt8) (z:Int) (hz:z=n.toNat):(c==n)=decide ((c.toNat:Int)=z):=by
   rw[Bool.eq_iff_iff,beq_iff_eq,decide_eq_true_iff,<-UInt8.toNat_inj];omega
  unfold blankB
  rw[h 32 32 rfl,h 9 9 rfl]
 rw[hb]
 by_cases h1:(c.toNat:Int)=32<;>by_cases h2:(c.toNat:Int)=9
 all_goals
  have e1:((c.toNat:Int)==32)=decide ((c.toNat:Int)=32):=rfl
  have e2:((c.toNat:Int)==9)=decide ((c.toNat:Int)=9):=rfl
  first|rw[decide_eq_true h1] at e1 ⊢|rw[decide_eq_false h1] at e1 ⊢
  first|rw[decide_eq_true h2] at e2 ⊢|rw[decide_eq_false h2] at e2 ⊢
  clear h1 h2 hb
  go_enter Tryz.func166,Tryz.ntmps166
  go_wp2
  go_ret
  exact⟨rfl,rfl⟩
def kindOfL (t:Str):Int:=if t=[111,114] then 8 else 7
theorem kindOf_any (t:ByteArray) (w:World) :
 Calls Tryz.prog 235 #[.string t] w fun e w'=>e=.returned (.int .i64 (kindOfL (bs t)))∧w=w':=by
 by_cases h:bs t=[111,114]
 ·have e1:(t.toList==[111,114])=true:=by rw[lit_beq,h];rfl
  have e2:t=⟨#[111,114]⟩:=bs_inj h
  rw[kindOfL,if_pos h]
  clear h
  go_enter Tryz.func235,Tryz.ntmps235
  go_wp2
  go_ret
  exact⟨rfl,rfl⟩
 ·have e1:(t.toList==[111,114])=false:=by rw[lit_beq,beq_eq_false_iff_ne];exact h
  rw[kindOfL,if_neg h]
  clear h
  go_enter Tryz.func235,Tryz.ntmps235
  go_wp2
  go_ret
  exact⟨rfl,rfl⟩
end
section
open Go.RowKit
structure ExtX (g:Nat) (w w':World):Prop where
 os:w'.os=w.os
 tape:w'.tape=w.tape
 output:w'.output=w.output
 size:w.heap.size<=w'.heap.size
 block:∀ k,k < w.heap.size->k≠g->w'.heap[k]?=w.heap[k]?
namespace ExtX
variable {g:Nat} {a b c w w':World}
theorem refl (g:Nat) (w:World):ExtX g w w:=⟨rfl,rfl,rfl,Nat.le_refl _,fun _ _ _=>rfl⟩
theorem ofExt (h:Ext a b):ExtX g a b:=⟨h.os,h.tape,h.output,h.size,fun k hk _=>h.block k hk⟩
theorem trans (h:ExtX g a b) (k:ExtX g b c):ExtX g a c :=
 ⟨k.os.trans h.os,k.tape.trans h.tape,k.output.trans h.output,Nat.le_trans h.size k.size,fun i hi hg=>(k.block i (Nat.lt_of_lt_of_le hi h.size) hg).trans (h.block i hi hg)⟩
theorem setG (h:ExtX g a w) (o:Nat) (u:Value):ExtX g a (w.setCell ⟨g,o,none⟩ u) :=
 h.trans ⟨rfl,rfl,rfl,by simp[World.setCell],fun k _ hg=>by simp only[World.setCell,Array.getElem?_modify];rw[if_neg (Ne.symm hg)]⟩
theorem set2 (h:ExtX g a w) {p:Addr} (hp:a.heap.size<=p.block) (u:Value):ExtX g a (w.setCell p u) :=
 ⟨h.os,h.tape,h.output,by have:=h.size;simpa [World.setCell] using this,fun k hk hg=>by
   refine Eq.trans ?_ (h.block k hk hg)
   simp only[World.setCell,Array.getElem?_modify]
   rw[if_neg (by omega)]⟩
theorem alloc (h:ExtX g a w) (o:Obj):ExtX g a (w.alloc o):=h.trans (ofExt ((Ext.refl w).alloc o))
theorem drew (h:ExtX g a w):ExtX g a w.drew:=h.trans (ofExt ((Ext.refl w).drew))
theorem ext (h:Ext a w) (k:ExtX g w w') (hg:a.heap.size<=g):Ext a w' :=
 ⟨k.os.trans h.os,k.tape.trans h.tape,k.output.trans h.output,Nat.le_trans h.size k.size,fun i hi=>(k.block i (Nat.lt_of_lt_of_le hi h.size) (by omega)).trans (h.block i hi)⟩
theorem cell (h:ExtX g a b) {k o:Nat} {v:Value} (hk:k≠g) (hc:a.cell? ⟨k,o,none⟩=some v):b.cell? ⟨k,o,none⟩=some v:=by
 have hl:=lt_of_cell hc
 unfold World.cell? at hc ⊢
 rw[h.block k hl hk]
 exact hc
end ExtX
theorem Blk.extX {g:Nat} {w w':World} {k:Nat} {t:TypeId} {cs:Array Value} (h:Blk w k t cs) (hx:ExtX g w w') (hk:k≠g):Blk w' k t cs:=(hx.block k h.lt hk).trans h
structure St where
 p:Nat
 k:Int
 a:Nat
 t:ByteArray
 wr:Int
abbrev rdA (s:ByteArray) (σ:St):Array Value:=#[.string s,.int .i64 σ.p,.int .i64 σ.k,.int .i64 σ.a,.string σ.t,.int .i64 σ.wr]
abbrev Rd (w:World) (g:Nat) (s:ByteArray) (σ:St):Prop:=Blk w g 148 (rdA s σ)
theorem Rd.setP {w:World} {g:Nat} {s:ByteArray} {σ:St} (h:Rd w g s σ) (n:Nat) {z:Int} (hz:z=n):Rd (w.setCell ⟨g,1,none⟩ (.int .i64 z)) g s ⟨n,σ.k,σ.a,σ.t,σ.wr⟩:=by
 subst hz;exact h.set 1 _
theorem Rd.setW {w:World} {g:Nat} {s:ByteArray} {σ:St} (h:Rd w g s σ) (z:Int):Rd (w.setCell ⟨g,5,none⟩ (.int .i64 z)) g s ⟨σ.p,σ.k,σ.a,σ.t,z⟩:=h.set 5 _
theorem Rd.setT {w:World} {g:Nat} {s:ByteArray} {σ:St} (h:Rd w g s σ) (k:Int) (a:Nat) (t:ByteArray):Rd (((w.setCell ⟨g,2,none⟩ (.int .i64 k)).setCell ⟨g,3,none⟩ (.int .i64 a)).setCell ⟨g,4,none⟩ (.string t)) g s ⟨σ.p,k,a,t,σ.wr⟩:=((h.set 2 _).set 3 _).set 4 _
def isF (σ:St) (k:Int) (t:Str):Bool:=decide (σ.wr < 0)&&decide (σ.k=k)&&decide (bs σ.t=t)
theorem ieq (a b:Int):(a==b)=decide (a=b):=by
 by_cases h:a=b
 ·rw[decide_eq_true h,beq_iff_eq];exact h
 ·rw[decide_eq_false h,beq_eq_false_iff_ne];exact h
theorem is_any (g:Nat) (s:ByteArray) (σ:St) (k:Int) (t:ByteArray) (w:World) (h:Rd w g s σ) :
 Calls Tryz.prog 168 #[.pointer (some ⟨g,0,none⟩),.int .i64 k,.string t] w fun e w'=>e=.returned (.bool (isF σ k (bs t)))∧w=w':=by
 obtain⟨p,sk,a,st,wr⟩:=σ
 have c:=h.cell
 unfold isF
 dsimp only
 by_cases h1:wr < 0
 ·by_cases h2:sk=k
  ·by_cases h3:bs st=bs t
   ·have e3:(st.toList==t.toList)=true:=by rw[eqE,decide_eq_true h3]
    subst h2
    rw[decide_eq_true h1,decide_eq_true rfl,decide_eq_true h3]
    clear h3 h
    go_enter Tryz.func168,Tryz.ntmps168
    go_wp2
    go_ret
    exact⟨rfl,rfl⟩
   ·have e3:(st.toList==t.toList)=false:=by rw[eqE,decide_eq_false h3]
    subst h2
    rw[decide_eq_true h1,decide_eq_true rfl,decide_eq_false h3]
    clear h3 h
    go_enter Tryz.func168,Tryz.ntmps168
    go_wp2
    go_ret
    exact⟨rfl,rfl⟩
  ·have e2:(sk==k)=false:=by rw[ieq,decide_eq_false h2]
   rw[decide_eq_true h1,decide_eq_false h2]
   clear h2 h
   go_enter Tryz.func168,Tryz.ntmps168
   go_wp2
   go_ret
   exact⟨rfl,rfl⟩
 ·rw[decide_eq_false h1]
  clear h
  go_enter Tryz.func168,Tryz.ntmps168
  go_wp2
  go_ret
  exact⟨rfl,rfl⟩
def failF (σ:St) (a:Int):St:=if σ.wr < 0 then { σ with wr:=a } else σ
theorem fail_any (g:Nat) (s:ByteArray) (σ:St) (a:Int) (w:World) (h:Rd w g s σ) :
 Calls Tryz.prog 100 #[.pointer (some ⟨g,0,none⟩),.int .i64 a] w fun e w'=>e=.returned (.tuple #[])∧Rd w' g s (failF σ a)∧ExtX g w w':=by
 obtain⟨p,sk,a0,st,wr⟩:=σ
 have c:=h.cell
 have f:=h.free
 unfold failF
 dsimp only
 by_cases h1:wr < 0
 ·rw[if_pos h1]
  have hfin:Rd (w.setCell ⟨g,5,none⟩ (.int .i64 a)) g s ⟨p,sk,a0,st,a⟩:=by simpa using h.set 5 (.int .i64 a)
  have HF:=Hy hfin
  clear h hfin
  go_enter Tryz.func100,Tryz.ntmps100
  go_wp2
  refine bodyPost_end (results_none rfl _ _ _) rfl ?_
  exact⟨rfl,HF.out,(ExtX.refl g w).setG _ _⟩
 ·rw[if_neg h1]
  have HF:=Hy h
  clear h
  go_enter Tryz.func100,Tryz.ntmps100
  go_wp2
  refine bodyPost_end (results_none rfl _ _ _) rfl ?_
  exact⟨rfl,HF.out,ExtX.refl g w⟩
end
end Go.Proofs.YtmnafaaijglnfaaGreatDoor
