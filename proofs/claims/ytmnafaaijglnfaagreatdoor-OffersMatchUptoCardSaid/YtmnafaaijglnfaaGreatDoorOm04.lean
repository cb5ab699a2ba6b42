/- Contracts of ver.Next, number. Contract of ver.Parse. Contracts of outref2: ValueOf, Number, VersionText. Contracts of outref2: VersionError. The condition reader of the program in memory: its state; 'is', 'fail'. -/
import Derived.Test.YtmnafaaijglnfaaGreatDoorOm02
namespace Go.Proofs.YtmnafaaijglnfaaGreatDoor
section
open Go.RowKit
abbrev verVal (a1 a2 a3:Int) (a:ByteArray):Value:=.agg #[.int .i64 a1,.int .i64 a2,.int .i64 a3,.string a]
def nextN (ma mi pa:Int) (e:Str) (part:Int):Option (Int × Int × Int) :=
 if part=0 then some (ma+1,0,0) else if part=1 then some (ma,mi+1,0) else if part=2 then some (ma,mi,if e=[] then pa+1 else pa) else none
def nextV (ma mi pa:Int) (e:Str) (part:Int):(Int × Int × Int) × Int :=
 if checkV ma mi pa e=0 then (match nextN ma mi pa e part with|none=>((0,0,0),3)|some v=>if checkV v.1 v.2.1 v.2.2 []=0 then (v,0) else ((0,0,0),3))
 else ((0,0,0),checkV ma mi pa e)
def NextPost (ma mi pa:Int) (e:Str) (part:Int) (w:World) (E:Ending) (w':World):Prop :=
 E=.returned (.tuple #[verVal (nextV ma mi pa e part).1.1 (nextV ma mi pa e part).1.2.1 (nextV ma mi pa e part).1.2.2 ⟨#[]⟩,.int .i64 (nextV ma mi pa e part).2])∧Ext w w'
theorem next_err {ma mi pa:Int} {e:Str} {part:Int} (h:checkV ma mi pa e≠0):nextV ma mi pa e part=((0,0,0),checkV ma mi pa e):=by rw[nextV,if_neg h]
theorem next_none {ma mi pa:Int} {e:Str} {part:Int} (h:checkV ma mi pa e=0) (h2:nextN ma mi pa e part=none):nextV ma mi pa e part=((0,0,0),3):=by rw[nextV,if_pos h,h2]
theorem next_ok {ma mi pa:Int} {e:Str} {part x y z:Int} (h:checkV ma mi pa e=0) (h2:nextN ma mi pa e part=some (x,y,z)) (h3:checkV x y z []=0):nextV ma mi pa e part=((x,y,z),0):=by
 rw[nextV,if_pos h,h2]
 simp only
 rw[if_pos h3]
theorem next_out {ma mi pa:Int} {e:Str} {part x y z:Int} (h:checkV ma mi pa e=0) (h2:nextN ma mi pa e part=some (x,y,z)) (h3:checkV x y z []≠0):nextV ma mi pa e part=((0,0,0),3):=by
 rw[nextV,if_pos h,h2]
 simp only
 rw[if_neg h3]
theorem post_next {ma mi pa:Int} {e:Str} {part:Int} {w w':World} {x y z r:Int} (h:nextV ma mi pa e part=((x,y,z),r)) (hx:Ext w w'):NextPost ma mi pa e part w (.returned (.tuple #[verVal x y z ⟨#[]⟩,.int .i64 r])) w':=by
 unfold NextPost
 rw[h]
 exact⟨rfl,hx⟩
set_option maxHeartbeats 2000000 in
theorem Next_any (ma mi pa part:Int) (ea:ByteArray) (w:World) (hg:Good w) (hs:ea.size<=2097152) :
 Calls Tryz.prog 14 #[.agg #[.int .i64 ma,.int .i64 mi,.int .i64 pa,.string ea],.int .i64 part] w (NextPost ma mi pa (bs ea) part w):=by
 go_enter Tryz.func14,Tryz.ntmps14
 go_wp2_with fail
 refine (Check_any ma mi pa ea _ (hg.ext Ext.au) hs).mono ?_
 rintro e w1 ⟨rfl,hx1⟩
 obtain⟨hc1,hf1⟩:=hx1.cells
 have hz1:=hx1.size
 have hz2:w.heap.size+1 < w1.heap.size:=by simp at hz1;omega
 have hz3:w.heap.size < w1.heap.size:=by omega
 clear hz1
 have hxx:Ext w w1:=Ext.trans Ext.au hx1
 by_cases h0:checkV ma mi pa (bs ea)=0
 ·obtain⟨p1,p2,p3,p4⟩:=checkV_ok h0
  obtain⟨p1,p1'⟩:=p1
  obtain⟨p2,p2'⟩:=p2
  obtain⟨p3,p3'⟩:=p3
  have H0:=Hy h0
  rw[h0]
  clear h0 p4
  by_cases hp0:part=0
  ·subst hp0
   have hN:nextN ma mi pa (bs ea) 0=some (ma+1,0,0):=by rw[nextN,if_pos rfl]
   have HN:=Hy hN
   clear hN
   go_wp2_with fail
   refine (Check_any (ma+1) (0) (0) ⟨#[]⟩ _ (hg.ext (Ext.trans hxx ?_)) (by decide)).mono ?_
   ·exact Ext.ad
   rintro e w2 ⟨rfl,hx2⟩
   obtain⟨hc2,hf2⟩:=hx2.cells
   have hz4:=hx2.size
   have hz5:w1.heap.size < w2.heap.size:=by simp at hz4;omega
   have hz6:w.heap.size+1 < w2.heap.size:=by omega
   have hx3:Ext w1 w2:=Ext.trans Ext.ad hx2
   have hx4:Ext w w2:=hxx.trans hx3
   clear hz4
   have hbe:bs { data:=#[] }=[]:=rfl
   by_cases h5:checkV (ma+1) (0) (0) (bs { data:=#[] })=0
   ·have H5:=Hy h5
    rw[h5]
    clear h5
    go_wp2
    refine bodyPost_ret (v:=.tuple #[verVal (ma+1) (0) (0) ⟨#[]⟩,.int .i64 0]) (by simp[results,Tryz.results14,go_sem,hc1,hc2,hz2,hz3]) rfl (post_next (next_ok H0.out HN.out H5.out) ?_)
    exact Ext.ad
   ·go_wp2
    refine bodyPost_ret (v:=.tuple #[verVal 0 0 0 ⟨#[]⟩,.int .i64 3]) (by simp[results,Tryz.results14,go_sem,hc1,hc2,hz2,hz3]) rfl (post_next (next_out H0.out HN.out h5) ?_)
    exact Ext.ad
  by_cases hp1:part=1
  ·subst hp1
   have hN:nextN ma mi pa (bs ea) 1=some (ma,mi+1,0):=by rw[nextN,if_neg (by decide),if_pos rfl]
   have HN:=Hy hN
   clear hN
   go_wp2_with fail
   refine (Check_any (ma) (mi+1) (0) ⟨#[]⟩ _ (hg.ext (Ext.trans hxx ?_)) (by decide)).mono ?_
   ·exact Ext.ad
   rintro e w2 ⟨rfl,hx2⟩
   obtain⟨hc2,hf2⟩:=hx2.cells
   have hz4:=hx2.size
   have hz5:w1.heap.size < w2.heap.size:=by simp at hz4;omega
   have hz6:w.heap.size+1 < w2.heap.size:=by omega
   have hx3:Ext w1 w2:=Ext.trans Ext.ad hx2
   have hx4:Ext w w2:=hxx.trans hx3
   clear hz4
   have hbe:bs { data:=#[] }=[]:=rfl
   by_cases h5:checkV (ma) (mi+1) (0) (bs { data:=#[] })=0
   ·have H5:=Hy h5
    rw[h5]
    clear h5
    go_wp2
    refine bodyPost_ret (v:=.tuple #[verVal (ma) (mi+1) (0) ⟨#[]⟩,.int .i64 0]) (by simp[results,Tryz.results14,go_sem,hc1,hc2,hz2,hz3]) rfl (post_next (next_ok H0.out HN.out H5.out) ?_)
    exact Ext.ad
   ·go_wp2
    refine bodyPost_ret (v:=.tuple #[verVal 0 0 0 ⟨#[]⟩,.int .i64 3]) (by simp[results,Tryz.results14,go_sem,hc1,hc2,hz2,hz3]) rfl (post_next (next_out H0.out HN.out h5) ?_)
    exact Ext.ad
  by_cases hp2:part=2
  ·subst hp2
   rcases Nat.eq_zero_or_pos ea.size with hs0|hs0
   ·have hi:=emp_bool hs0
    have hN:nextN ma mi pa (bs ea) 2=some (ma,mi,pa+1):=by rw[nextN,if_neg (by decide),if_neg (by decide),if_pos rfl,if_pos (bs_nil hs0)]
    have HN:=Hy hN
    clear hN
    go_wp2_with fail
    refine (Check_any (ma) (mi) (pa+1) ⟨#[]⟩ _ (hg.ext (Ext.trans hxx ?_)) (by decide)).mono ?_
    ·exact Ext.ad
    rintro e w2 ⟨rfl,hx2⟩
    obtain⟨hc2,hf2⟩:=hx2.cells
    have hz4:=hx2.size
    have hz5:w1.heap.size < w2.heap.size:=by simp at hz4;omega
    have hz6:w.heap.size+1 < w2.heap.size:=by omega
    have hx3:Ext w1 w2:=Ext.trans Ext.ad hx2
    have hx4:Ext w w2:=hxx.trans hx3
    clear hz4
    have hbe:bs { data:=#[] }=[]:=rfl
    by_cases h5:checkV (ma) (mi) (pa+1) (bs { data:=#[] })=0
    ·have H5:=Hy h5
     rw[h5]
     clear h5
     go_wp2
     refine bodyPost_ret (v:=.tuple #[verVal (ma) (mi) (pa+1) ⟨#[]⟩,.int .i64 0]) (by simp[results,Tryz.results14,go_sem,hc1,hc2,hz2,hz3]) rfl (post_next (next_ok H0.out HN.out H5.out) ?_)
     exact Ext.ad
    ·go_wp2
     refine bodyPost_ret (v:=.tuple #[verVal 0 0 0 ⟨#[]⟩,.int .i64 3]) (by simp[results,Tryz.results14,go_sem,hc1,hc2,hz2,hz3]) rfl (post_next (next_out H0.out HN.out h5) ?_)
     exact Ext.ad
   ·have hi:=nemp_bool hs0
    have hne:¬ bs ea=[]:=fun e=>by have:=bs_length ea;rw[e] at this;simp at this;omega
    have hN:nextN ma mi pa (bs ea) 2=some (ma,mi,pa):=by rw[nextN,if_neg (by decide),if_neg (by decide),if_pos rfl,if_neg hne]
    have HN:=Hy hN
    clear hN
    go_wp2_with fail
    refine (Check_any (ma) (mi) (pa) ⟨#[]⟩ _ (hg.ext (Ext.trans hxx ?_)) (by decide)).mono ?_
    ·exact Ext.ad
    rintro e w2 ⟨rfl,hx2⟩
    obtain⟨hc2,hf2⟩:=hx2.cells
    have hz4:=hx2.size
    have hz5:w1.heap.size < w2.heap.size:=by simp at hz4;omega
    have hz6:w.heap.size+1 < w2.heap.size:=by omega
    have hx3:Ext w1 w2:=Ext.trans Ext.ad hx2
    have hx4:Ext w w2:=hxx.trans hx3
    clear hz4
    have hbe:bs { data:=#[] }=[]:=rfl
    by_cases h5:checkV (ma) (mi) (pa) (bs { data:=#[] })=0
    ·have H5:=Hy h5
     rw[h5]
     clear h5
     go_wp2
     refine bodyPost_ret (v:=.tuple #[verVal (ma) (mi) (pa) ⟨#[]⟩,.int .i64 0]) (by simp[results,Tryz.results14,go_sem,hc1,hc2,hz2,hz3]) rfl (post_next (next_ok H0.out HN.out H5.out) ?_)
     exact Ext.ad
    ·go_wp2
     refine bodyPost_ret (v:=.tuple #[verVal 0 0 0 ⟨#[]⟩,.int .i64 3]) (by simp[results,Tryz.results14,go_sem,hc1,hc2,hz2,hz3]) rfl (post_next (next_out H0.out HN.out h5) ?_)
     exact Ext.ad
  have hN:nextN ma mi pa (bs ea) part=none:=by rw[nextN,if_neg hp0,if_neg hp1,if_neg hp2]
  have HN:=Hy hN
  have b0:(part==0)=false:=by simpa using hp0
  have b1:(part==1)=false:=by simpa using hp1
  have b2:(part==2)=false:=by simpa using hp2
  have b3:(part != 2)=true:=by simpa using hp2
  clear hN hp0 hp1 hp2
  go_wp2
  refine bodyPost_ret (v:=.tuple #[verVal 0 0 0 ⟨#[]⟩,.int .i64 3]) (by simp[results,Tryz.results14,go_sem,hc1,hz2]) rfl (post_next (next_none H0.out HN.out) ?_)
  exact Ext.ad
 ·go_wp2
  refine bodyPost_ret (v:=.tuple #[verVal 0 0 0 ⟨#[]⟩,.int .i64 (checkV ma mi pa (bs ea))]) (by simp[results,Tryz.results14,go_sem,hc1]) rfl (post_next (next_err h0) ?_)
  exact Ext.ad
end
section
open Go.RowKit
abbrev verVal' (a1 a2 a3:Int) (a:ByteArray):Value:=.agg #[.int .i64 a1,.int .i64 a2,.int .i64 a3,.string a]
def parseV (l:Str):(Int × Int × Int × Str) × Int :=
 match splitC 46 (cutC 45 l).1 with
 | [x,y,z] =>
   if ((cutC 45 l).2.2&&(cutC 45 l).2.1.isEmpty)=true then ((0,0,0,[]),8)
   else if (numOk x&&numOk y&&numOk z)=false then ((0,0,0,[]),8)
   else if checkV (numV x) (numV y) (numV z) (cutC 45 l).2.1=0 then ((numV x,numV y,numV z,(cutC 45 l).2.1),0)
   else ((0,0,0,[]),checkV (numV x) (numV y) (numV z) (cutC 45 l).2.1)
 | _=>((0,0,0,[]),8)
def ParsePost (l:Str) (w:World) (E:Ending) (w':World):Prop :=
 ∃ b:ByteArray,E=.returned (.tuple #[verVal' (parseV l).1.1 (parseV l).1.2.1 (parseV l).1.2.2.1 b,.int .i64 (parseV l).2])∧bs b=(parseV l).1.2.2.2∧b.size<=l.length∧Ext w w'
theorem post_parse0 {l:Str} {w w':World} {r:Int} (h:parseV l=((0,0,0,[]),r)) (hx:Ext w w'):ParsePost l w (.returned (.tuple #[verVal' 0 0 0 ⟨#[]⟩,.int .i64 r])) w' :=
 ⟨⟨#[]⟩,by rw[h],by rw[h],Nat.zero_le _,hx⟩
theorem parse_count {l:Str} (h:(splitC 46 (cutC 45 l).1).length≠3):parseV l=((0,0,0,[]),8):=by
 unfold parseV
 split
 ·rename_i x y z e;exact absurd (by rw[e];rfl) h
 ·rfl
theorem parse_tail {l:Str} {x y z:Str} (h:splitC 46 (cutC 45 l).1=[x,y,z]) (h2:((cutC 45 l).2.2&&(cutC 45 l).2.1.isEmpty)=true):parseV l=((0,0,0,[]),8):=by
 unfold parseV
 rw[h]
 simp only
 rw[if_pos h2]
theorem parse_num {l:Str} {x y z:Str} (h:splitC 46 (cutC 45 l).1=[x,y,z]) (h2:((cutC 45 l).2.2&&(cutC 45 l).2.1.isEmpty)=false) (h3:(numOk x&&numOk y&&numOk z)=false):parseV l=((0,0,0,[]),8):=by
 unfold parseV
 rw[h]
 simp only
 rw[if_neg (by rw[h2];decide),if_pos h3]
theorem parse_ok {l:Str} {x y z:Str} (h:splitC 46 (cutC 45 l).1=[x,y,z]) (h2:((cutC 45 l).2.2&&(cutC 45 l).2.1.isEmpty)=false) (h3:numOk x=true) (h4:numOk y=true) (h5:numOk z=true) :
 parseV l=if checkV (numV x) (numV y) (numV z) (cutC 45 l).2.1=0 then ((numV x,numV y,numV z,(cutC 45 l).2.1),0) else ((0,0,0,[]),checkV (numV x) (numV y) (numV z) (cutC 45 l).2.1):=by
 unfold parseV
 rw[h]
 simp only
 rw[if_neg (by rw[h2];decide),if_neg (by rw[h3,h4,h5];decide)]
theorem post_parse1 {l:Str} {w w':World} {a1 a2 a3:Int} {b:ByteArray} (h:parseV l=((a1,a2,a3,bs b),0)) (hb:b.size<=l.length) (hx:Ext w w'):ParsePost l w (.returned (.tuple #[verVal' a1 a2 a3 b,.int .i64 0])) w' :=
 ⟨b,by rw[h],by rw[h],hb,hx⟩
theorem three {xs:List ByteArray} (h:xs.length=3):∃ x y z,xs=[x,y,z]:=by
 match xs,h with
 | [x,y,z],_=>exact⟨x,y,z,rfl⟩
set_option maxHeartbeats 2000000 in
theorem Parse_any (s:ByteArray) (w:World) (hg:GoodN w) (hs:s.size<=2097152) :
 Calls Tryz.prog 26 #[.string s] w (ParsePost (bs s) w):=by
 go_enter Tryz.func26,Tryz.ntmps26
 go_wp2_with fail
 refine (cut_ex 45 s _ (hg.toGood.ext Ext.au) hs).mono ?_
 rintro e w1 ⟨nb,eb,fl,rfl,hcut,hsn,hse,hx1⟩
 have HCUT:=Hy hcut
 clear hcut
 go_wp2_with fail
 refine (split_any 46 nb _ ((hg.toGood.ext Ext.au).ext hx1) (by omega)).mono ?_
 rintro e w2 ⟨b,xs,rfl,hb0,hst,hxs,hx2⟩
 have hxx:Ext w w2:=(Ext.trans Ext.au hx1).trans hx2
 have hR:=((Blk.new w 23 #[.int .i64 0,.int .i64 0,.int .i64 0,.string ⟨#[]⟩]).ext hx1).ext hx2
 have rc:=hR.cell
 have rf:=hR.free
 have rl:=hR.lt
 by_cases h3:xs.length=3
 ·obtain⟨x,y,z,rfl⟩:=three h3
  have hsp:splitC 46 (cutC 45 (bs s)).1=[bs x,bs y,bs z]:=by rw[HCUT.out,<-hxs];rfl
  have HSP:=Hy hsp
  have c0:w2.cell? ⟨b,0,none⟩=some (.string x):=hst.cell 0 (by simp)
  have c1:w2.cell? ⟨b,1,none⟩=some (.string y):=hst.cell 1 (by simp)
  have c2:w2.cell? ⟨b,2,none⟩=some (.string z):=hst.cell 2 (by simp)
  have sx:x.size<=nb.size:=piece_le hxs (k:=0) (by simp)
  have sy:y.size<=nb.size:=piece_le hxs (k:=1) (by simp)
  have sz:z.size<=nb.size:=piece_le hxs (k:=2) (by simp)
  have hbl:=hst.lt
  clear h3 hxs hst hsp
  have htail:(cutC 45 (bs s)).2.2=fl∧(cutC 45 (bs s)).2.1=bs eb:=by rw[HCUT.out];exact⟨rfl,rfl⟩
  have HT:=Hy htail
  clear htail
  by_cases ht:fl=true∧eb.size=0
  ·obtain⟨rfl,he0⟩:=ht
   have hi:=emp_bool he0
   have hp:parseV (bs s)=((0,0,0,[]),8):=parse_tail HSP.out (by rw[HT.out.1,HT.out.2,bs_nil he0];rfl)
   have HP:=Hy hp
   clear hp
   go_wp2
   refine bodyPost_ret (v:=.tuple #[verVal' 0 0 0 ⟨#[]⟩,.int .i64 8]) (by simp[results,Tryz.results26,go_sem,rc]) rfl (post_parse0 HP.out ?_)
   exact Ext.ad
  have hT2:((cutC 45 (bs s)).2.2&&(cutC 45 (bs s)).2.1.isEmpty)=false:=by
   rw[HT.out.1,HT.out.2]
   cases fl
   ·rfl
   ·rcases Nat.eq_zero_or_pos eb.size with h0|h0
    ·exact absurd ⟨rfl,h0⟩ ht
    ·have:=nemp_bool h0
     rw[ByteArray.toList_eq] at this
     rw[this];rfl
  have HT2:=Hy hT2
  clear hT2
  have hq:fl=false∨(fl=true∧0 < eb.size):=by
   cases fl
   ·exact .inl rfl
   ·exact .inr ⟨rfl,Nat.pos_of_ne_zero fun h0=>ht ⟨rfl,h0⟩⟩
  clear ht
  rcases hq with rfl|⟨rfl,hq0⟩
  rotate_left
  ·have hi:=nemp_bool hq0
   go_wp2
   go_loopw [36] (fun i wr=>((i=.int .i64 0∧Blk wr w2.heap.size 115 #[.int .i64 0,.int .i64 0,.int .i64 0])∨(i=.int .i64 1∧numOk (bs x)=true∧Blk wr w2.heap.size 115 #[.int .i64 (numV (bs x)),.int .i64 0,.int .i64 0])∨(i=.int .i64 2∧numOk (bs x)=true∧numOk (bs y)=true∧Blk wr w2.heap.size 115 #[.int .i64 (numV (bs x)),.int .i64 (numV (bs y)),.int .i64 0])∨(i=.int .i64 3∧numOk (bs x)=true∧numOk (bs y)=true∧numOk (bs z)=true∧Blk wr w2.heap.size 115 #[.int .i64 (numV (bs x)),.int .i64 (numV (bs y)),.int .i64 (numV (bs z))]))∧Ext w2 wr) (fun i _=>3 - (intOf i).toNat)
   case atStart=>exact⟨.inl ⟨rfl,Blk.new w2 _ _⟩,(Ext.refl w2).alloc _⟩
   case round =>
    obtain⟨hi,hxr⟩:=hrel
    have rr:=hR.ext hxr
    have d0:=hxr.cell c0
    have d1:=hxr.cell c1
    have d2:=hxr.cell c2
    have gr:=((hg.ext Ext.au).ext hx1).ext (hx2.trans hxr)
    clear rc rf rl c0 c1 c2
    rcases hi with ⟨rfl,hA⟩|⟨rfl,o0,hA⟩|⟨rfl,o0,o1,hA⟩|⟨rfl,o0,o1,o2,hA⟩
    ·skip
     go_wp2_with fail
     refine (number_any x _ gr (by omega)).mono ?_
     rintro e w3 ⟨rfl,hx3⟩
     have hA3:=hA.ext hx3
     have ac:=hA3.cell
     have af:=hA3.free
     have rr3:=rr.ext hx3
     have rc:=rr3.cell
     have rf:=rr3.free
     cases hk:numOk (bs x)
     ·have HP:=Hy (parse_num HSP.out HT2.out (by rw[hk];simp))
      clear hk ac af
      go_wp2
      refine bodyPost_ret (v:=.tuple #[verVal' 0 0 0 ⟨#[]⟩,.int .i64 8]) (by simp[results,Tryz.results26,go_sem,rc]) rfl (post_parse0 HP.out ?_)
      have hx4:Ext w w3:=(hxx.trans hxr).trans hx3
      exact Ext.ad
     ·have OK:=Hy hk
      clear hk rc rf
      go_wp2
      go_roundw
      case rel=>exact⟨.inr (.inl ⟨rfl,OK.out,hA3.set 0 _⟩),Ext.setCell (hxr.trans hx3) (Nat.le_refl _) _⟩
      case measure=>decide
    ·have O0:=Hy o0;clear o0
     go_wp2_with fail
     refine (number_any y _ gr (by omega)).mono ?_
     rintro e w3 ⟨rfl,hx3⟩
     have hA3:=hA.ext hx3
     have ac:=hA3.cell
     have af:=hA3.free
     have rr3:=rr.ext hx3
     have rc:=rr3.cell
     have rf:=rr3.free
     cases hk:numOk (bs y)
     ·have HP:=Hy (parse_num HSP.out HT2.out (by rw[hk,O0.out];simp))
      clear hk ac af
      go_wp2
      refine bodyPost_ret (v:=.tuple #[verVal' 0 0 0 ⟨#[]⟩,.int .i64 8]) (by simp[results,Tryz.results26,go_sem,rc]) rfl (post_parse0 HP.out ?_)
      have hx4:Ext w w3:=(hxx.trans hxr).trans hx3
      exact Ext.ad
     ·have OK:=Hy hk
      clear hk rc rf
      go_wp2
      go_roundw
      case rel=>exact⟨.inr (.inr (.inl ⟨rfl,O0.out,OK.out,hA3.set 1 _⟩)),Ext.setCell (hxr.trans hx3) (Nat.le_refl _) _⟩
      case measure=>decide
    ·have O0:=Hy o0;have O1:=Hy o1;clear o0 o1
     go_wp2_with fail
     refine (number_any z _ gr (by omega)).mono ?_
     rintro e w3 ⟨rfl,hx3⟩
     have hA3:=hA.ext hx3
     have ac:=hA3.cell
     have af:=hA3.free
     have rr3:=rr.ext hx3
     have rc:=rr3.cell
     have rf:=rr3.free
     cases hk:numOk (bs z)
     ·have HP:=Hy (parse_num HSP.out HT2.out (by rw[hk,O0.out,O1.out];simp))
      clear hk ac af
      go_wp2
      refine bodyPost_ret (v:=.tuple #[verVal' 0 0 0 ⟨#[]⟩,.int .i64 8]) (by simp[results,Tryz.results26,go_sem,rc]) rfl (post_parse0 HP.out ?_)
      have hx4:Ext w w3:=(hxx.trans hxr).trans hx3
      exact Ext.ad
     ·have OK:=Hy hk
      clear hk rc rf
      go_wp2
      go_roundw
      case rel=>exact⟨.inr (.inr (.inr (⟨rfl,O0.out,O1.out,OK.out,hA3.set 2 _⟩))),Ext.setCell (hxr.trans hx3) (Nat.le_refl _) _⟩
      case measure=>decide
    ·have O0:=Hy o0;have O1:=Hy o1;have O2:=Hy o2;clear o0 o1 o2
     have ac:=hA.cell
     have rc:=rr.cell
     have rf:=rr.free
     have rl:=rr.lt
     have hp:=parse_ok HSP.out HT2.out O0.out O1.out O2.out
     rw[HT.out.2] at hp
     have HP:=Hy hp
     clear hp
     go_wp2_with fail
     refine (Check_any _ _ _ eb _ (gr.toGood.ext Ext.au) (by omega)).mono ?_
     rintro e w3 ⟨rfl,hx3⟩
     have hx4:Ext w w3:=Ext.trans (Ext.trans (hxx.trans hxr) Ext.au) hx3
     have rr3:=(rr.alloc _).ext hx3
     have rc3:=rr3.cell
     have rf3:=rr3.free
     obtain⟨hc3,hf3⟩:=hx3.cells
     clear ac rc rf
     have vb:=(Blk.new wr 23 #[.int .i64 (numV (bs x)),.int .i64 (numV (bs y)),.int .i64 (numV (bs z)),.string eb]).ext hx3
     have vc:=vb.cell
     by_cases h5:checkV (numV (bs x)) (numV (bs y)) (numV (bs z)) (bs eb)=0
     ·have H5:=Hy h5
      rw[h5]
      clear h5
      go_wp2
      refine bodyPost_ret (v:=.tuple #[verVal' (numV (bs x)) (numV (bs y)) (numV (bs z)) eb,.int .i64 0]) (by simp[results,Tryz.results26,go_sem,rc3]) rfl (post_parse1 (by rw[HP.out,if_pos H5.out]) (by rw[bs_length];exact hse) ?_)
      exact Ext.ad
     ·have H5:=Hy h5
      go_wp2
      refine bodyPost_ret (v:=.tuple #[verVal' 0 0 0 ⟨#[]⟩,.int .i64 (checkV (numV (bs x)) (numV (bs y)) (numV (bs z)) (bs eb))]) (by simp[results,Tryz.results26,go_sem,rc3]) rfl (post_parse0 (by rw[HP.out,if_neg H5.out]) ?_)
      exact Ext.ad
  ·go_wp2
   go_loopw [36] (fun i wr=>((i=.int .i64 0∧Blk wr w2.heap.size 115 #[.int .i64 0,.int .i64 0,.int .i64 0])∨(i=.int .i64 1∧numOk (bs x)=true∧Blk wr w2.heap.size 115 #[.int .i64 (numV (bs x)),.int .i64 0,.int .i64 0])∨(i=.int .i64 2∧numOk (bs x)=true∧numOk (bs y)=true∧Blk wr w2.heap.size 115 #[.int .i64 (numV (bs x)),.int .i64 (numV (bs y)),.int .i64 0])∨(i=.int .i64 3∧numOk (bs x)=true∧numOk (bs y)=true∧numOk (bs z)=true∧Blk wr w2.heap.size 115 #[.int .i64 (numV (bs x)),.int .i64 (numV (bs y)),.int .i64 (numV (bs z))]))∧Ext w2 wr) (fun i _=>3 - (intOf i).toNat)
   case atStart=>exact⟨.inl ⟨rfl,Blk.new w2 _ _⟩,(Ext.refl w2).alloc _⟩
   case round =>
    obtain⟨hi,hxr⟩:=hrel
    have rr:=hR.ext hxr
    have d0:=hxr.cell c0
    have d1:=hxr.cell c1
    have d2:=hxr.cell c2
    have gr:=((hg.ext Ext.au).ext hx1).ext (hx2.trans hxr)
    clear rc rf rl c0 c1 c2
    rcases hi with ⟨rfl,hA⟩|⟨rfl,o0,hA⟩|⟨rfl,o0,o1,hA⟩|⟨rfl,o0,o1,o2,hA⟩
    ·skip
     go_wp2_with fail
     refine (number_any x _ gr (by omega)).mono ?_
     rintro e w3 ⟨rfl,hx3⟩
     have hA3:=hA.ext hx3
     have ac:=hA3.cell
     have af:=hA3.free
     have rr3:=rr.ext hx3
     have rc:=rr3.cell
     have rf:=rr3.free
     cases hk:numOk (bs x)
     ·have HP:=Hy (parse_num HSP.out HT2.out (by rw[hk];simp))
      clear hk ac af
      go_wp2
      refine bodyPost_ret (v:=.tuple #[verVal' 0 0 0 ⟨#[]⟩,.int .i64 8]) (by simp[results,Tryz.results26,go_sem,rc]) rfl (post_parse0 HP.out ?_)
      have hx4:Ext w w3:=(hxx.trans hxr).trans hx3
      exact Ext.ad
     ·have OK:=Hy hk
      clear hk rc rf
      go_wp2
      go_roundw
      case rel=>exact⟨.inr (.inl ⟨rfl,OK.out,hA3.set 0 _⟩),Ext.setCell (hxr.trans hx3) (Nat.le_refl _) _⟩
      case measure=>decide
    ·have O0:=Hy o0;clear o0
     go_wp2_with fail
     refine (number_any y _ gr (by omega)).mono ?_
     rintro e w3 ⟨rfl,hx3⟩
     have hA3:=hA.ext hx3
     have ac:=hA3.cell
     have af:=hA3.free
     have rr3:=rr.ext hx3
     have rc:=rr3.cell
     have rf:=rr3.free
     cases hk:numOk (bs y)
     ·have HP:=Hy (parse_num HSP.out HT2.out (by rw[hk,O0.out];simp))
      clear hk ac af
      go_wp2
      refine bodyPost_ret (v:=.tuple #[verVal' 0 0 0 ⟨#[]⟩,.int .i64 8]) (by simp[results,Tryz.results26,go_sem,rc]) rfl (post_parse0 HP.out ?_)
      have hx4:Ext w w3:=(hxx.trans hxr).trans hx3
      exact Ext.ad
     ·have OK:=Hy hk
      clear hk rc rf
      go_wp2
      go_roundw
      case rel=>exact⟨.inr (.inr (.inl ⟨rfl,O0.out,OK.out,hA3.set 1 _⟩)),Ext.setCell (hxr.trans hx3) (Nat.le_refl _) _⟩
      case measure=>decide
    ·have O0:=Hy o0;have O1:=Hy o1;clear o0 o1
     go_wp2_with fail
     refine (number_any z _ gr (by omega)).mono ?_
     rintro e w3 ⟨rfl,hx3⟩
     have hA3:=hA.ext hx3
     have ac:=hA3.cell
     have af:=hA3.free
     have rr3:=rr.ext hx3
     have rc:=rr3.cell
     have rf:=rr3.free
     cases hk:numOk (bs z)
     ·have HP:=Hy (parse_num HSP.out HT2.out (by rw[hk,O0.out,O1.out];simp))
      clear hk ac af
      go_wp2
      refine bodyPost_ret (v:=.tuple #[verVal' 0 0 0 ⟨#[]⟩,.int .i64 8]) (by simp[results,Tryz.results26,go_sem,rc]) rfl (post_parse0 HP.out ?_)
      have hx4:Ext w w3:=(hxx.trans hxr).trans hx3
      exact Ext.ad
     ·have OK:=Hy hk
      clear hk rc rf
      go_wp2
      go_roundw
      case rel=>exact⟨.inr (.inr (.inr (⟨rfl,O0.out,O1.out,OK.out,hA3.set 2 _⟩))),Ext.setCell (hxr.trans hx3) (Nat.le_refl _) _⟩
      case measure=>decide
    ·have O0:=Hy o0;have O1:=Hy o1;have O2:=Hy o2;clear o0 o1 o2
     have ac:=hA.cell
     have rc:=rr.cell
     have rf:=rr.free
     have rl:=rr.lt
     have hp:=parse_ok HSP.out HT2.out O0.out O1.out O2.out
     rw[HT.out.2] at hp
     have HP:=Hy hp
     clear hp
     go_wp2_with fail
     refine (Check_any _ _ _ eb _ (gr.toGood.ext Ext.au) (by omega)).mono ?_
     rintro e w3 ⟨rfl,hx3⟩
     have hx4:Ext w w3:=Ext.trans (Ext.trans (hxx.trans hxr) Ext.au) hx3
     have rr3:=(rr.alloc _).ext hx3
     have rc3:=rr3.cell
     have rf3:=rr3.free
     obtain⟨hc3,hf3⟩:=hx3.cells
     clear ac rc rf
     have vb:=(Blk.new wr 23 #[.int .i64 (numV (bs x)),.int .i64 (numV (bs y)),.int .i64 (numV (bs z)),.string eb]).ext hx3
     have vc:=vb.cell
     by_cases h5:checkV (numV (bs x)) (numV (bs y)) (numV (bs z)) (bs eb)=0
     ·have H5:=Hy h5
      rw[h5]
      clear h5
      go_wp2
      refine bodyPost_ret (v:=.tuple #[verVal' (numV (bs x)) (numV (bs y)) (numV (bs z)) eb,.int .i64 0]) (by simp[results,Tryz.results26,go_sem,rc3]) rfl (post_parse1 (by rw[HP.out,if_pos H5.out]) (by rw[bs_length];exact hse) ?_)
      exact Ext.ad
     ·have H5:=Hy h5
      go_wp2
      refine bodyPost_ret (v:=.tuple #[verVal' 0 0 0 ⟨#[]⟩,.int .i64 (checkV (numV (bs x)) (numV (bs y)) (numV (bs z)) (bs eb))]) (by simp[results,Tryz.results26,go_sem,rc3]) rfl (post_parse0 (by rw[HP.out,if_neg H5.out]) ?_)
      exact Ext.ad
 ·have b3:((xs.length:Int) != 3)=true:=by rw[bne_iff_ne];omega
  have hp:parseV (bs s)=((0,0,0,[]),8):=parse_count (by rw[HCUT.out,<-hxs,List.length_map];exact h3)
  have HP:=Hy hp
  clear hp h3 hxs hst
  go_wp2
  refine bodyPost_ret (v:=.tuple #[verVal' 0 0 0 ⟨#[]⟩,.int .i64 8]) (by simp[results,Tryz.results26,go_sem,rc]) rfl (post_parse0 HP.out ?_)
  exact Ext.ad
end
section
open Go.RowKit
set_option maxHeartbeats 1000000 in
theorem ValueOf_any (s:ByteArray) (w:World) (hs:s.size<=2097152) :
 Calls Tryz.prog 23 #[.string s] w fun e w'=>e=.returned (.bool (valueL (bs s)))∧w=w':=by
 go_enter Tryz.func23,Tryz.ntmps23
 go_wp2
 go_loop [6] (fun i=>∃ k:Nat,k<=s.size∧i=.int .i64 k∧(s.data.toList.take k).all valueB=true) (fun i=>s.size - (intOf i).toNat)
 case atStart=>exact⟨0,Nat.zero_le _,rfl,by simp⟩
 case round =>
  obtain⟨k,hk,rfl,hall⟩:=hrel
  have HALL:=Hy hall
  clear hall
  by_cases hlt:k < s.size
  ·have hfa:=all_false_of valueB s k hlt
   have hsu:=all_take_succ valueB s k hlt
   have HFA:=Hy hfa
   have HSU:=Hy hsu
   clear hfa hsu
   by_cases h1:s[k].toNat < 32
   ·have h1':((s[k].toNat:Nat):Int) < 32:=by omega
    have hv:valueB s[k]=false:=by simp[valueB];omega
    have HV:=Hy (HFA.out hv)
    clear hv h1
    go_wp2
    go_ret
    exact⟨ret_bool (by rw[valueL,show (bs s).all valueB=false from HV.out];rfl),rfl⟩
   ·have h1':¬ ((s[k].toNat:Nat):Int) < 32:=by omega
    by_cases h2:126 < s[k].toNat
    ·have h2':(126:Int) < ((s[k].toNat:Nat):Int):=by omega
     have hv:valueB s[k]=false:=by simp[valueB];omega
     have HV:=Hy (HFA.out hv)
     clear hv h1 h2
     go_wp2
     go_ret
     exact⟨ret_bool (by rw[valueL,show (bs s).all valueB=false from HV.out];rfl),rfl⟩
    ·have h2':¬ (126:Int) < ((s[k].toNat:Nat):Int):=by omega
     have hv:valueB s[k]=true:=by simp[valueB];omega
     have HV:=Hy hv
     clear hv h1 h2
     go_wp2
     go_round
     case rel=>exact⟨k+1,by omega,by go_num,by rw[HSU.out,HALL.out,HV.out];rfl⟩
     case measure=>simp[intOf];omega
  ·obtain rfl:k=s.size:=by omega
   go_wp2
   go_ret
   refine⟨ret_bool ?_,rfl⟩
   rw[take_size] at HALL
   rw[valueL,show (bs s).all valueB=true from HALL.out,bs_length]
   simp
   omega
theorem numOk_eq (l:Str):numOk l=((l != [])&&decide (l.length<=9)&&l.all digitB&&!(decide (1 < l.length)&&(l.headD 0==48))):=by
 unfold numOk eachL
 cases l with
 | nil=>simp
 | cons x r =>
   have h1:decide (0 < (x::r).length)=true:=by simp
   have h2:((x::r) != ([]:Str))=true:=rfl
   rw[h1,h2]
   by_cases hx:x=48
   ·subst hx
    cases r with
    | nil=>decide
    | cons y t =>
      have h3:((48::y::t:Str) != [48])=true:=rfl
      have h4:decide (1 < (48::y::t:Str).length)=true:=by simp
      rw[h3,h4]
      generalize (48::y::t:Str).all digitB=a
      generalize decide ((48::y::t:Str).length<=9)=b
      cases a<;>cases b<;>rfl
   ·have h3:(((x::r:Str).headD 0)==48)=false:=by simpa using hx
    rw[h3]
    generalize (x::r:Str).all digitB=a
    generalize decide ((x::r:Str).length<=9)=b
    generalize ((x::r:Str) != [48])=c
    generalize decide (1 < (x::r:Str).length)=d
    cases a<;>cases b<;>cases c<;>cases d<;>rfl
set_option maxHeartbeats 2000000 in
theorem Number_any (s:ByteArray) (w:World) (hg:GoodN w) (hs:s.size<=2097152) :
 Calls Tryz.prog 88 #[.string s,.int .i64 9] w fun e w'=>e=.returned (.tuple #[.int .i64 (numV (bs s)),.bool (numOk (bs s))])∧Ext w w':=by
 have hpl:=numOk_eq (bs s)
 have HPL:=Hy hpl
 clear hpl
 have hno:numOk (bs s)=false->numV (bs s)=0:=fun h=>by rw[numV,h];rfl
 have HNO:=Hy hno
 clear hno
 go_enter Tryz.func88,Tryz.ntmps88
 rcases Nat.eq_zero_or_pos s.size with hz|hz
 ·have hi:=emp_bool hz
  have hp:numOk (bs s)=false:=by rw[HPL.out,bs_nil hz];rfl
  have HP:=Hy hp
  clear hp
  go_wp2
  go_ret2
  exact⟨by rw[HNO.out HP.out,HP.out];rfl,Ext.refl _⟩
 have hi:=nemp_bool hz
 have e1:(bs s != ([]:Str))=true:=by
  rw[bne_iff_ne];intro e;have:=bs_length s;rw[e] at this;simp at this;omega
 by_cases h9:9 < s.size
 ·have hp:numOk (bs s)=false:=by rw[HPL.out,bs_length,decide_eq_false (by omega:¬ s.size<=9)];simp
  have HP:=Hy hp
  clear hp e1
  go_wp2
  go_ret2
  exact⟨by rw[HNO.out HP.out,HP.out];rfl,Ext.refl _⟩
 have e2:decide (s.size<=9)=true:=decide_eq_true (by omega)
 go_wp2_with fail
 refine (of_digit s _ hs).mono ?_
 rintro e w1 ⟨rfl,hx1⟩
 cases hd:(bs s).all digitB
 ·have hp:numOk (bs s)=false:=by rw[HPL.out,hd];simp
  have HP:=Hy hp
  clear hp hd e1 e2
  go_wp2
  go_ret2
  exact⟨by rw[HNO.out HP.out,HP.out];rfl,hx1⟩
 have hq:numOk (bs s)=!(decide (1 < s.size)&&(s[0]==48)):=by
  rw[HPL.out,e1,hd,bs_length,e2,head_bs s hz];simp
 have HQ:=Hy hq
 have hV:numOk (bs s)=true->numV (bs s)=(decVal (bs s):Nat)∧Lib.atoiAll (bs s)=.ok ((decVal (bs s):Nat):Int):=fun h =>
  ⟨by rw[numV,if_pos h],atoi_digits _ hd (by rw[bs_length];exact hz) (by rw[bs_length];omega)⟩
 have HV:=Hy hV
 clear hq hV hd e1 e2
 by_cases h1:1 < s.size
 ·by_cases h48:s[0].toNat=48
  ·have h48':((s[0].toNat:Nat):Int)=48:=by omega
   have hp:numOk (bs s)=false:=by
    have:s[0]=48:=UInt8.toNat_inj.1 h48
    rw[HQ.out,this,decide_eq_true h1];rfl
   have HP:=Hy hp
   have hb:(((s[0].toNat:Nat):Int)==48)=true:=by rw[beq_iff_eq];exact h48'
   have HB:=Hy hb
   clear hp h48 h48' hb
   have hb:=HB.out
   go_wp2
   go_ret2
   exact⟨by rw[HNO.out HP.out,HP.out];rfl,hx1⟩
  ·have hb:(((s[0].toNat:Nat):Int)==48)=false:=by rw[beq_eq_false_iff_ne];omega
   have hp:numOk (bs s)=true:=by
    have:(s[0]==48)=false:=by rw[beq_eq_false_iff_ne];intro e;rw[e] at h48;exact h48 rfl
    rw[HQ.out,this];simp
   have HP:=Hy hp
   clear hp h48
   go_wp2_with fail
   refine (atoi_any s _ (hg.ext hx1) hs).mono ?_
   rintro e w2 ⟨v,ev,rfl,hx2,hv,hev⟩
   obtain⟨rfl,rfl⟩:=hv _ (HV.out HP.out).2
   clear hv hev
   go_wp2_with fail
   refine wp_region_ext (by kernel_rfl) (by kernel_rfl) ?_
   repeat (first|go_big_quiet_skip|(refine wpQuiet_step (fun K hK=>?_);go_simp;first|(refine hK _ ?_;clear hK K)|(apply Exists.intro;refine⟨fun wq hwq=>?_,hK _ ?_⟩;(obtain⟨hqc,hqf⟩:=hwq.cells;have hqs:=hwq.size;(try go_simp);first|rfl|((first|rw[if_neg (by omega)]|rw[if_pos (by omega)]);(try go_simp);rfl)|((fail)));clear hK K)))
   refine wpQuiet_nil ?_
   intro wN hxN
   obtain⟨hcN,hfN⟩:=hxN.cells
   have hsN:=hxN.size
   go_wp2
   go_ret2
   exact⟨by rw[(HV.out HP.out).1,HP.out];rfl,(hx1.trans hx2).trans hxN⟩
 ·have hp:numOk (bs s)=true:=by rw[HQ.out,decide_eq_false h1];rfl
  have HP:=Hy hp
  clear hp
  go_wp2_with fail
  refine (atoi_any s _ (hg.ext hx1) hs).mono ?_
  rintro e w2 ⟨v,ev,rfl,hx2,hv,hev⟩
  obtain⟨rfl,rfl⟩:=hv _ (HV.out HP.out).2
  clear hv hev
  go_wp2_with fail
  refine wp_region_ext (by kernel_rfl) (by kernel_rfl) ?_
  repeat (first|go_big_quiet_skip|(refine wpQuiet_step (fun K hK=>?_);go_simp;first|(refine hK _ ?_;clear hK K)|(apply Exists.intro;refine⟨fun wq hwq=>?_,hK _ ?_⟩;(obtain⟨hqc,hqf⟩:=hwq.cells;have hqs:=hwq.size;(try go_simp);first|rfl|((first|rw[if_neg (by omega)]|rw[if_pos (by omega)]);(try go_simp);rfl)|((fail)));clear hK K)))
  refine wpQuiet_nil ?_
  intro wN hxN
  obtain⟨hcN,hfN⟩:=hxN.cells
  have hsN:=hxN.size
  go_wp2
  go_ret2
  exact⟨by rw[(HV.out HP.out).1,HP.out];rfl,(hx1.trans hx2).trans hxN⟩
set_option maxHeartbeats 1000000 in
theorem VersionText_any (ma mi pa:Int) (ea:ByteArray) (w:World) (hg:GoodN w) (hs:ea.size<=2097152) (h1:0<=ma) (h2:ma<=999999) (h3:0<=mi) (h4:mi<=999999) (h5:0<=pa) (h6:pa<=999999) :
 Calls Tryz.prog 24 #[.agg #[.int .i64 ma,.int .i64 mi,.int .i64 pa,.string ea]] w fun e w'=>e=.returned (S (textL ma mi pa (bs ea)))∧Ext w w':=by
 have la:=Lib.itoa_length_le ma (by omega) (by omega)
 have li:=Lib.itoa_length_le mi (by omega) (by omega)
 have lp:=Lib.itoa_length_le pa (by omega) (by omega)
 go_enter Tryz.func24,Tryz.ntmps24
 go_wp2_with fail
 refine wp_region_ext (by kernel_rfl) (by kernel_rfl) ?_
 repeat (first|go_big_quiet_skip|(refine wpQuiet_step (fun K hK=>?_);go_simp;first|(refine hK _ ?_;clear hK K)|(apply Exists.intro;refine⟨fun wq hwq=>?_,hK _ ?_⟩;(obtain⟨hqc,hqf⟩:=hwq.cells;have hqs:=hwq.size;(try go_simp);first|rfl|((first|rw[if_neg (by omega)]|rw[if_pos (by omega)]);(try go_simp);rfl)|((go_at_call 82;refine (itoa_any _ _ (hg.ext (Ext.trans Ext.au hwq)) (by omega) (by omega)).mono (fun e w'' h=>⟨h.1,hwq.trans h.2⟩))));clear hK K)))
 refine wpQuiet_nil ?_
 intro wN hxN
 obtain⟨hcN,hfN⟩:=hxN.cells
 have hsN:=hxN.size
 rcases Nat.eq_zero_or_pos ea.size with h0|h0
 ·have he:=emp_of_size h0
  go_wp2
  go_ret
  refine⟨ret_strS ?_,Ext.trans Ext.au hxN⟩
  simp[textL,bs_nil h0]
 ·have he:=nemp_of_size h0
  have hi:=nemp_bool h0
  have he2:¬ bs ea=[]:=fun e=>by have:=bs_length ea;rw[e] at this;simp at this;omega
  go_wp2
  go_ret
  refine⟨ret_strS ?_,Ext.trans Ext.au hxN⟩
  simp[textL,he2]
end
section
open Go.RowKit
theorem In_num (n:Int) (w:World) :
 Calls Tryz.prog 58 #[.int .i64 n,.int .i64 0,.int .i64 999999] w fun e w'=>e=.returned (.bool (inNum n))∧w=w':=In_any n 0 999999 w
structure V4 where
 a1:Int
 a2:Int
 a3:Int
 a:ByteArray
def V4.err (v:V4):Int:=checkV v.a1 v.a2 v.a3 (bs v.a)
structure VerS (w:World) (b:Nat) (l:List V4):Prop where
 c0:∀ k (h:k < l.length),w.cell? ⟨b,k * 4,none⟩=some (.int .i64 l[k].a1)
 c1:∀ k (h:k < l.length),w.cell? ⟨b,k * 4+1,none⟩=some (.int .i64 l[k].a2)
 c2:∀ k (h:k < l.length),w.cell? ⟨b,k * 4+2,none⟩=some (.int .i64 l[k].a3)
 c3:∀ k (h:k < l.length),w.cell? ⟨b,k * 4+3,none⟩=some (.string l[k].a)
theorem VerS.ext {w w':World} {b:Nat} {l:List V4} (h:VerS w b l) (hx:Ext w w'):VerS w' b l :=
 ⟨fun k hk=>hx.cell (h.c0 k hk),fun k hk=>hx.cell (h.c1 k hk),fun k hk=>hx.cell (h.c2 k hk),fun k hk=>hx.cell (h.c3 k hk)⟩
theorem earlyWord_eq (l:Str):earlyWordL l=!((l==[])||decide (10 < l.length)||!(l.all wordB)||(l.all digitB&&decide (1 < l.length)&&(l.headD 0==48))):=by
 unfold earlyWordL numeralL eachL
 cases l with
 | nil=>simp
 | cons x r =>
   have h1:decide (0 < (x::r).length)=true:=by simp
   have h2:((x::r)==([]:Str))=false:=rfl
   rw[h1,h2]
   by_cases h10:(x::r:Str).length<=10
   ·rw[decide_eq_true h10,decide_eq_false (by omega:¬ 10 < (x::r:Str).length)]
    by_cases hx:x=48
    ·subst hx
     cases r with
     | nil=>decide
     | cons y t =>
       have h3:((48::y::t:Str) != [48])=true:=rfl
       have h4:decide (1 < (48::y::t:Str).length)=true:=by simp
       rw[h3,h4]
       generalize (48::y::t:Str).all digitB=a
       generalize (48::y::t:Str).all wordB=b
       cases a<;>cases b<;>rfl
    ·have h3:(((x::r:Str).headD 0)==48)=false:=by simpa using hx
     rw[h3]
     generalize (x::r:Str).all digitB=a
     generalize (x::r:Str).all wordB=b
     generalize ((x::r:Str) != [48])=c
     generalize decide (1 < (x::r:Str).length)=d
     cases a<;>cases b<;>cases c<;>cases d<;>rfl
   ·rw[decide_eq_false h10,decide_eq_true (by omega:10 < (x::r:Str).length)]
    simp
set_option maxHeartbeats 4000000 in
set_option maxRecDepth 100000 in
theorem VersionError_any (b c:Nat) (l:List V4) (w:World) (hg:Good w) (hv:VerS w b l) (hs:∀ v∈l,v.a.size<=2097152) (hl:l.length<=2097152) :
 Calls Tryz.prog 10 #[.slice (some ⟨b,0,none⟩) l.length c] w fun e w'=>e=.returned (.int .i64 (firstI (l.map V4.err)))∧Ext w w':=by
 go_enter Tryz.func10,Tryz.ntmps10
 go_wp2
 go_loopw [11] (fun i wr=>∃ k:Nat,k<=l.length∧i=.int .i64 k∧(∀ x∈(l.map V4.err).take k,x=0)∧Ext w wr) (fun i _=>l.length - (intOf i).toNat)
 case atStart=>exact⟨0,Nat.zero_le _,rfl,by simp,Ext.refl _⟩
 case round =>
  obtain⟨k,hk,rfl,hall,hxr⟩:=hrel
  have HALL:=Hy hall
  clear hall
  by_cases hlt:k < l.length
  ·have vr:=hv.ext hxr
   have c0:=vr.c0 k hlt
   have c1:=vr.c1 k hlt
   have c2:=vr.c2 k hlt
   have c3:=vr.c3 k hlt
   have hsz:=hs l[k] (List.getElem_mem hlt)
   have herr:firstI (l.map V4.err)=l[k].err∨l[k].err=0:=by
    by_cases h0:l[k].err=0
    ·exact .inr h0
    ·have:=firstI_at (l:=l.map V4.err) (k:=k) (by simpa using hlt) HALL.out (by simpa using h0)
     exact .inl (by simpa using this)
   have hnext:l[k].err=0->∀ x∈(l.map V4.err).take (k+1),x=0:=fun h0=>take_zero_succ (by simpa using hlt) HALL.out (by simpa using h0)
   have HERR:=Hy herr
   have HNEXT:=Hy hnext
   clear herr hnext vr
   generalize l[k]=v at *
   obtain⟨a1,a2,a3,a⟩:=v
   obtain⟨wo,rfl⟩:∃ wo:World,wo=wr:=⟨_,rfl⟩
   have hx0:Ext wo ((wo.alloc (.cells #[.int .i64 a1,.int .i64 a2,.int .i64 a3,.string a] 23)).alloc (.cells #[.int .i64 a1,.int .i64 a2,.int .i64 a3] 3)):=Ext.au
   have bad3:(inNum a1&&inNum a2&&inNum a3)=false->firstI (l.map V4.err)=3:=fun h=>by
    have h1:(V4.mk a1 a2 a3 a).err=3:=by unfold V4.err checkV;rw[if_pos h]
    rcases HERR.out with h2|h2
    ·rw[h2,h1]
    ·rw[h1] at h2;cases h2
   have bad2:(inNum a1&&inNum a2&&inNum a3)=true->(bs a).isEmpty=false->earlyL (bs a)=false->firstI (l.map V4.err)=2:=fun h he hl=>by
    have h1:(V4.mk a1 a2 a3 a).err=2:=by unfold V4.err checkV;rw[if_neg (by rw[h];decide),if_pos (by rw[he,hl];rfl)]
    rcases HERR.out with h2|h2
    ·rw[h2,h1]
    ·rw[h1] at h2;cases h2
   have good:(inNum a1&&inNum a2&&inNum a3)=true->((bs a).isEmpty=true∨earlyL (bs a)=true)->∀ x∈(l.map V4.err).take (k+1),x=0:=fun h he=>by
    refine HNEXT.out ?_
    show (V4.mk a1 a2 a3 a).err=0
    unfold V4.err checkV
    rw[if_neg (by rw[h];decide),if_neg]
    rcases he with he|he<;>simp[he]
   have BAD3:=Hy bad3
   have BAD2:=Hy bad2
   have GOOD:=Hy good
   clear bad3 bad2 good HERR HNEXT
   go_wp2
   go_loop [23] (fun i=>(i=.int .i64 0∨(i=.int .i64 1∧inNum a1=true)∨(i=.int .i64 2∧inNum a1=true∧inNum a2=true)∨(i=.int .i64 3∧inNum a1=true∧inNum a2=true∧inNum a3=true))) (fun i=>3 - (intOf i).toNat)
   case atStart=>exact .inl rfl
   case round =>
    rcases hrel with rfl|⟨rfl,h1⟩|⟨rfl,h1,h2⟩|⟨rfl,h1,h2,h3⟩
    ·go_wp2_with fail
     refine (In_num _ _).mono ?_
     rintro e w' ⟨rfl,rfl⟩
     cases h1:inNum a1
     ·go_wp2
      go_ret
      exact⟨ret_int (BAD3.out (by rw[h1];rfl)).symm,hxr.trans hx0⟩
     ·go_wp2
      go_round
      case rel=>exact .inr (.inl ⟨rfl,h1⟩)
      case measure=>decide
    ·go_wp2_with fail
     refine (In_num _ _).mono ?_
     rintro e w' ⟨rfl,rfl⟩
     cases h2:inNum a2
     ·go_wp2
      go_ret
      exact⟨ret_int (BAD3.out (by rw[h1,h2];rfl)).symm,hxr.trans hx0⟩
     ·go_wp2
      go_round
      case rel=>exact .inr (.inr (.inl ⟨rfl,h1,h2⟩))
      case measure=>decide
    ·go_wp2_with fail
     refine (In_num _ _).mono ?_
     rintro e w' ⟨rfl,rfl⟩
     cases h3:inNum a3
     ·go_wp2
      go_ret
      exact⟨ret_int (BAD3.out (by rw[h1,h2,h3];rfl)).symm,hxr.trans hx0⟩
     ·go_wp2
      go_round
      case rel=>exact .inr (.inr (.inr ⟨rfl,h1,h2,h3⟩))
      case measure=>decide
    ·have h123:(inNum a1&&inNum a2&&inNum a3)=true:=by rw[h1,h2,h3];rfl
     have H:=Hy h123
     clear h1 h2 h3 h123 c0 c1 c2 c3
     rcases Nat.eq_zero_or_pos a.size with hz|hz
     ·have hi:=emp_bool hz
      have hG:=GOOD.out H.out (.inl (by rw[bs_nil hz];rfl))
      have HG:=Hy hG
      clear hG
      go_wp2
      go_roundw
      case rel=>exact⟨k+1,by omega,by go_num,HG.out,hxr.trans hx0⟩
      case measure=>simp[intOf];omega
     have hi:=nemp_bool hz
     have hie:(bs a).isEmpty=false:=by rw[ByteArray.toList_eq] at hi;exact hi
     have HIE:=Hy hie
     clear hie
     by_cases h40:40 < a.size
     ·have hB:=BAD2.out H.out HIE.out (by unfold earlyL;rw[bs_length,decide_eq_false (by omega:¬ a.size<=40)];simp)
      have HB:=Hy hB
      clear hB
      go_wp2
      go_ret
      exact⟨ret_int HB.out.symm,hxr.trans hx0⟩
     go_wp2_with fail
     refine (split_any 46 a _ (hg.ext (hxr.trans hx0)) (by omega)).mono ?_
     rintro e w1 ⟨b1,xs,rfl,hb0,hst,hxs,hx1⟩
     have HXS:=Hy hxs
     have hcell:=hst.cell
     have HC:=Hy hcell
     have hlen:=pieces_le hxs
     clear hcell hxs
     have hxw:Ext w w1:=(hxr.trans hx0).trans hx1
     go_wp2
     go_loopw [42] (fun i wr=>∃ j:Nat,j<=xs.length∧i=.int .i64 j∧(xs.take j).all (fun x=>earlyWordL (bs x))=true∧Ext w1 wr) (fun i _=>xs.length - (intOf i).toNat)
     case atStart=>exact⟨0,Nat.zero_le _,rfl,by simp,Ext.refl _⟩
     case round =>
      obtain⟨j,hj,rfl,hall2,hxr2⟩:=hrel
      have HALL2:=Hy hall2
      clear hall2
      by_cases hlt2:j < xs.length
      ·have hk1:=hxr2.cell (HC.out j hlt2)
       have hsz2:=piece_le HXS.out hlt2
       have hne:=allS_false earlyWordL xs j hlt2
       have hsu:=allS_succ earlyWordL xs j hlt2 HALL2.out
       have HNE:=Hy hne
       have HSU:=Hy hsu
       clear hne hsu
       generalize xs[j]=x at *
       have hpl:=earlyWord_eq (bs x)
       have HPL:=Hy hpl
       have hbad:earlyWordL (bs x)=false->firstI (l.map V4.err)=2:=fun h=>BAD2.out H.out HIE.out (by
        unfold earlyL
        rw[<-HXS.out,HNE.out h];rfl)
       have HBAD:=Hy hbad
       clear hpl hbad
       rcases Nat.eq_zero_or_pos x.size with hxz|hxz
       ·have hi2:=emp_bool hxz
        have HP:=Hy (HBAD.out (by rw[bs_nil hxz];rfl))
        go_wp2
        go_ret
        exact⟨ret_int HP.out.symm,hxw.trans hxr2⟩
       have hi2:=nemp_bool hxz
       have e1:(bs x==([]:Str))=false:=by
        rw[beq_eq_false_iff_ne];intro e;have:=bs_length x;rw[e] at this;simp at this;omega
       by_cases h10:10 < x.size
       ·have HP:=Hy (HBAD.out (by rw[HPL.out,bs_length,decide_eq_true h10];simp))
        clear e1
        go_wp2
        go_ret
        exact⟨ret_int HP.out.symm,hxw.trans hxr2⟩
       have e2:decide (10 < x.size)=false:=decide_eq_false h10
       go_wp2_with fail
       refine (of_word x _ (by omega)).mono ?_
       rintro e w2 ⟨rfl,hx2⟩
       cases hw1:(bs x).all wordB
       ·have HP:=Hy (HBAD.out (by rw[HPL.out,hw1];simp))
        clear e1 e2 hw1
        go_wp2
        go_ret
        exact⟨ret_int HP.out.symm,(hxw.trans hxr2).trans hx2⟩
       go_wp2_with fail
       refine (of_digit x _ (by omega)).mono ?_
       rintro e w3 ⟨rfl,hx3⟩
       have hx5:=(hxr2.trans hx2).trans hx3
       cases hd1:(bs x).all digitB
       ·have HP:=Hy (HSU.out (by rw[HPL.out,e1,hw1,hd1,bs_length,e2];rfl))
        clear e1 e2 hw1 hd1
        go_wp2
        go_roundw
        case rel=>exact⟨j+1,by omega,by go_num,HP.out,hx5⟩
        case measure=>simp[intOf];omega
       have hq:earlyWordL (bs x)=!(decide (1 < x.size)&&(x[0]==48)):=by
        rw[HPL.out,e1,hw1,hd1,bs_length,e2,head_bs x hxz];simp
       have HQ:=Hy hq
       clear hq e1 e2 hw1 hd1
       by_cases h1:1 < x.size
       ·by_cases h48:x[0].toNat=48
        ·have hb:(((x[0].toNat:Nat):Int)==48)=true:=by rw[beq_iff_eq];omega
         have HP:=Hy (HBAD.out (by
          have:x[0]=48:=UInt8.toNat_inj.1 h48
          rw[HQ.out,this,decide_eq_true h1];rfl))
         clear h48
         go_wp2
         go_ret
         exact⟨ret_int HP.out.symm,hxw.trans hx5⟩
        ·have hb:(((x[0].toNat:Nat):Int)==48)=false:=by rw[beq_eq_false_iff_ne];omega
         have HP:=Hy (HSU.out (by
          have:(x[0]==48)=false:=by rw[beq_eq_false_iff_ne];intro e;rw[e] at h48;exact h48 rfl
          rw[HQ.out,this];simp))
         clear h48
         go_wp2
         go_roundw
         case rel=>exact⟨j+1,by omega,by go_num,HP.out,hx5⟩
         case measure=>simp[intOf];omega
       ·have HP:=Hy (HSU.out (by rw[HQ.out,decide_eq_false h1];rfl))
        go_wp2
        go_roundw
        case rel=>exact⟨j+1,by omega,by go_num,HP.out,hx5⟩
        case measure=>simp[intOf];omega
      ·obtain rfl:j=xs.length:=by omega
       have hG:=GOOD.out H.out (.inr (by
        unfold earlyL
        rw[<-HXS.out,allS_true earlyWordL xs HALL2.out,bs_length,decide_eq_true (by omega:a.size<=40)];rfl))
       have HG:=Hy hG
       clear hG
       go_wp2
       go_roundw
       case rel=>exact⟨k+1,by omega,by go_num,HG.out,hxw.trans hxr2⟩
       case measure=>simp[intOf];omega
  ·obtain rfl:k=l.length:=by omega
   go_wp2
   go_ret
   have hz:=HALL.out
   rw[List.take_of_length_le (by simp)] at hz
   exact⟨ret_int (firstI_zero hz).symm,hxr⟩
end
section
open Go.RowKit
structure ExtX (g:Nat) (w w':World):Prop where
 os:w'.os=w.os
 tape:w'.tape=w.tape
 output:w'.output=w.output
 size:w.heap.size<=w'.heap.size
 block:∀ k,k < w.heap.size->k≠g->w'.heap[k]?=w.heap[k]?
namespace ExtX
variable {g:Nat} {a b c w w':World}
theorem refl (g:Nat) (w:World):ExtX g w w:=⟨rfl,rfl,rfl,Nat.le_refl _,fun _ _ _=>rfl⟩
theorem ofExt (h:Ext a b):ExtX g a b:=⟨h.os,h.tape,h.output,h.size,fun k hk _=>h.block k hk⟩
theorem trans (h:ExtX g a b) (k:ExtX g b c):ExtX g a c :=
 ⟨k.os.trans h.os,k.tape.trans h.tape,k.output.trans h.output,Nat.le_trans h.size k.size,fun i hi hg=>(k.block i (Nat.lt_of_lt_of_le hi h.size) hg).trans (h.block i hi hg)⟩
theorem alloc (h:ExtX g a w) (o:Obj):ExtX g a (w.alloc o):=h.trans (ofExt ((Ext.refl w).alloc o))
theorem drew (h:ExtX g a w):ExtX g a w.drew:=h.trans (ofExt ((Ext.refl w).drew))
theorem ext (h:Ext a w) (k:ExtX g w w') (hg:a.heap.size<=g):Ext a w' :=
 ⟨k.os.trans h.os,k.tape.trans h.tape,k.output.trans h.output,Nat.le_trans h.size k.size,fun i hi=>(k.block i (Nat.lt_of_lt_of_le hi h.size) (by omega)).trans (h.block i hi)⟩
theorem cell (h:ExtX g a b) {k o:Nat} {v:Value} (hk:k≠g) (hc:a.cell? ⟨k,o,none⟩=some v):b.cell? ⟨k,o,none⟩=some v:=by
 have hl:=lt_of_cell hc
 unfold World.cell? at hc ⊢
 rw[h.block k hl hk]
 exact hc
end ExtX
structure St where
 p:Nat
 k:Int
 a:Nat
 t:ByteArray
 wr:Int
end
end Go.Proofs.YtmnafaaijglnfaaGreatDoor
