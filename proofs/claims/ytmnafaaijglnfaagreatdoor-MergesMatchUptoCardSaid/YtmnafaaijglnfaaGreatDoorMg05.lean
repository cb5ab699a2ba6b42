/- Contracts of ver.Next, number. -/
import Derived.Test.YtmnafaaijglnfaaGreatDoorMg04
namespace Go.Proofs.YtmnafaaijglnfaaGreatDoor
open Go.RowKit
abbrev verVal (a1 a2 a3:Int) (a:ByteArray):Value:=.agg #[.int .i64 a1,.int .i64 a2,.int .i64 a3,.string a]
def nextN (ma mi pa:Int) (e:Str) (part:Int):Option (Int × Int × Int) :=
 if part=0 then some (ma+1,0,0) else if part=1 then some (ma,mi+1,0) else if part=2 then some (ma,mi,if e=[] then pa+1 else pa) else none
def nextV (ma mi pa:Int) (e:Str) (part:Int):(Int × Int × Int) × Int :=
 if checkV ma mi pa e=0 then (match nextN ma mi pa e part with|none=>((0,0,0),3)|some v=>if checkV v.1 v.2.1 v.2.2 []=0 then (v,0) else ((0,0,0),3))
 else ((0,0,0),checkV ma mi pa e)
def NextPost (ma mi pa:Int) (e:Str) (part:Int) (w:World) (E:Ending) (w':World):Prop :=
 E=.returned (.tuple #[verVal (nextV ma mi pa e part).1.1 (nextV ma mi pa e part).1.2.1 (nextV ma mi pa e part).1.2.2 ⟨#[]⟩,.int .i64 (nextV ma mi pa e part).2])∧Ext w w'
theorem next_err {ma mi pa:Int} {e:Str} {part:Int} (h:checkV ma mi pa e≠0):nextV ma mi pa e part=((0,0,0),checkV ma mi pa e):=by rw[nextV,if_neg h]
theorem next_none {ma mi pa:Int} {e:Str} {part:Int} (h:checkV ma mi pa e=0) (h2:nextN ma mi pa e part=none):nextV ma mi pa e part=((0,0,0),3):=by rw[nextV,if_pos h,h2]
theorem next_ok {ma mi pa:Int} {e:Str} {part x y z:Int} (h:checkV ma mi pa e=0) (h2:nextN ma mi pa e part=some (x,y,z)) (h3:checkV x y z []=0):nextV ma mi pa e part=((x,y,z),0):=by
 rw[nextV,if_pos h,h2]
 simp only
 rw[if_pos h3]
theorem next_out {ma mi pa:Int} {e:Str} {part x y z:Int} (h:checkV ma mi pa e=0) (h2:nextN ma mi pa e part=some (x,y,z)) (h3:checkV x y z []≠0):nextV ma mi pa e part=((0,0,0),3):=by
 rw[nextV,if_pos h,h2]
 simp only
 rw[if_neg h3]
theorem post_next {ma mi pa:Int} {e:Str} {part:Int} {w w':World} {x y z r:Int} (h:nextV ma mi pa e part=((x,y,z),r)) (hx:Ext w w'):NextPost ma mi pa e part w (.returned (.tuple #[verVal x y z ⟨#[]⟩,.int .i64 r])) w':=by
 unfold NextPost
 rw[h]
 exact⟨rfl,hx⟩
set_option maxHeartbeats 2000000 in
theorem Next_any (ma mi pa part:Int) (ea:ByteArray) (w:World) (hg:Good w) (hs:ea.size<=2097152) :
 Calls Tryz.prog 14 #[.agg #[.int .i64 ma,.int .i64 mi,.int .i64 pa,.string ea],.int .i64 part] w (NextPost ma mi pa (bs ea) part w):=by
 go_enter Tryz.func14,Tryz.ntmps14
 go_wp2_with fail
 refine (Check_any ma mi pa ea _ (hg.ext Ext.au) hs).mono ?_
 rintro e w1 ⟨rfl,hx1⟩
 obtain⟨hc1,hf1⟩:=hx1.cells
 have hz1:=hx1.size
 have hz2:w.heap.size+1 < w1.heap.size:=by simp at hz1;omega
 have hz3:w.heap.size < w1.heap.size:=by omega
 clear hz1
 have hxx:Ext w w1:=Ext.trans Ext.au hx1
 by_cases h0:checkV ma mi pa (bs ea)=0
 ·obtain⟨p1,p2,p3,p4⟩:=checkV_ok h0
  obtain⟨p1,p1'⟩:=p1
  obtain⟨p2,p2'⟩:=p2
  obtain⟨p3,p3'⟩:=p3
  have H0:=Hy h0
  rw[h0]
  clear h0 p4
  by_cases hp0:part=0
  ·subst hp0
   have hN:nextN ma mi pa (bs ea) 0=some (ma+1,0,0):=by rw[nextN,if_pos rfl]
   have HN:=Hy hN
   clear hN
   go_wp2_with fail
   refine (Check_any (ma+1) (0) (0) ⟨#[]⟩ _ (hg.ext (Ext.trans hxx ?_)) (by decide)).mono ?_
   ·exact Ext.ad
   rintro e w2 ⟨rfl,hx2⟩
   obtain⟨hc2,hf2⟩:=hx2.cells
   have hz4:=hx2.size
   have hz5:w1.heap.size < w2.heap.size:=by simp at hz4;omega
   have hz6:w.heap.size+1 < w2.heap.size:=by omega
   have hx3:Ext w1 w2:=Ext.trans Ext.ad hx2
   have hx4:Ext w w2:=hxx.trans hx3
   clear hz4
   have hbe:bs { data:=#[] }=[]:=rfl
   by_cases h5:checkV (ma+1) (0) (0) (bs { data:=#[] })=0
   ·have H5:=Hy h5
    rw[h5]
    clear h5
    go_wp2
    refine bodyPost_ret (v:=.tuple #[verVal (ma+1) (0) (0) ⟨#[]⟩,.int .i64 0]) (by simp[results,Tryz.results14,go_sem,hc1,hc2,hz2,hz3]) rfl (post_next (next_ok H0.out HN.out H5.out) ?_)
    exact Ext.ad
   ·go_wp2
    refine bodyPost_ret (v:=.tuple #[verVal 0 0 0 ⟨#[]⟩,.int .i64 3]) (by simp[results,Tryz.results14,go_sem,hc1,hc2,hz2,hz3]) rfl (post_next (next_out H0.out HN.out h5) ?_)
    exact Ext.ad
  by_cases hp1:part=1
  ·subst hp1
   have hN:nextN ma mi pa (bs ea) 1=some (ma,mi+1,0):=by rw[nextN,if_neg (by decide),if_pos rfl]
   have HN:=Hy hN
   clear hN
   go_wp2_with fail
   refine (Check_any (ma) (mi+1) (0) ⟨#[]⟩ _ (hg.ext (Ext.trans hxx ?_)) (by decide)).mono ?_
   ·exact Ext.ad
   rintro e w2 ⟨rfl,hx2⟩
   obtain⟨hc2,hf2⟩:=hx2.cells
   have hz4:=hx2.size
   have hz5:w1.heap.size < w2.heap.size:=by simp at hz4;omega
   have hz6:w.heap.size+1 < w2.heap.size:=by omega
   have hx3:Ext w1 w2:=Ext.trans Ext.ad hx2
   have hx4:Ext w w2:=hxx.trans hx3
   clear hz4
   have hbe:bs { data:=#[] }=[]:=rfl
   by_cases h5:checkV (ma) (mi+1) (0) (bs { data:=#[] })=0
   ·have H5:=Hy h5
    rw[h5]
    clear h5
    go_wp2
    refine bodyPost_ret (v:=.tuple #[verVal (ma) (mi+1) (0) ⟨#[]⟩,.int .i64 0]) (by simp[results,Tryz.results14,go_sem,hc1,hc2,hz2,hz3]) rfl (post_next (next_ok H0.out HN.out H5.out) ?_)
    exact Ext.ad
   ·go_wp2
    refine bodyPost_ret (v:=.tuple #[verVal 0 0 0 ⟨#[]⟩,.int .i64 3]) (by simp[results,Tryz.results14,go_sem,hc1,hc2,hz2,hz3]) rfl (post_next (next_out H0.out HN.out h5) ?_)
    exact Ext.ad
  by_cases hp2:part=2
  ·subst hp2
   rcases Nat.eq_zero_or_pos ea.size with hs0|hs0
   ·have hi:=emp_bool hs0
    have hN:nextN ma mi pa (bs ea) 2=some (ma,mi,pa+1):=by rw[nextN,if_neg (by decide),if_neg (by decide),if_pos rfl,if_pos (bs_nil hs0)]
    have HN:=Hy hN
    clear hN
    go_wp2_with fail
    refine (Check_any (ma) (mi) (pa+1) ⟨#[]⟩ _ (hg.ext (Ext.trans hxx ?_)) (by decide)).mono ?_
    ·exact Ext.ad
    rintro e w2 ⟨rfl,hx2⟩
    obtain⟨hc2,hf2⟩:=hx2.cells
    have hz4:=hx2.size
    have hz5:w1.heap.size < w2.heap.size:=by simp at hz4;omega
    have hz6:w.heap.size+1 < w2.heap.size:=by omega
    have hx3:Ext w1 w2:=Ext.trans Ext.ad hx2
    have hx4:Ext w w2:=hxx.trans hx3
    clear hz4
    have hbe:bs { data:=#[] }=[]:=rfl
    by_cases h5:checkV (ma) (mi) (pa+1) (bs { data:=#[] })=0
    ·have H5:=Hy h5
     rw[h5]
     clear h5
     go_wp2
     refine bodyPost_ret (v:=.tuple #[verVal (ma) (mi) (pa+1) ⟨#[]⟩,.int .i64 0]) (by simp[results,Tryz.results14,go_sem,hc1,hc2,hz2,hz3]) rfl (post_next (next_ok H0.out HN.out H5.out) ?_)
     exact Ext.ad
    ·go_wp2
     refine bodyPost_ret (v:=.tuple #[verVal 0 0 0 ⟨#[]⟩,.int .i64 3]) (by simp[results,Tryz.results14,go_sem,hc1,hc2,hz2,hz3]) rfl (post_next (next_out H0.out HN.out h5) ?_)
     exact Ext.ad
   ·have hi:=nemp_bool hs0
    have hne:¬ bs ea=[]:=fun e=>by have:=bs_length ea;rw[e] at this;simp at this;omega
    have hN:nextN ma mi pa (bs ea) 2=some (ma,mi,pa):=by rw[nextN,if_neg (by decide),if_neg (by decide),if_pos rfl,if_neg hne]
    have HN:=Hy hN
    clear hN
    go_wp2_with fail
    refine (Check_any (ma) (mi) (pa) ⟨#[]⟩ _ (hg.ext (Ext.trans hxx ?_)) (by decide)).mono ?_
    ·exact Ext.ad
    rintro e w2 ⟨rfl,hx2⟩
    obtain⟨hc2,hf2⟩:=hx2.cells
    have hz4:=hx2.size
    have hz5:w1.heap.size < w2.heap.size:=by simp at hz4;omega
    have hz6:w.heap.size+1 < w2.heap.size:=by omega
    have hx3:Ext w1 w2:=Ext.trans Ext.ad hx2
    have hx4:Ext w w2:=hxx.trans hx3
    clear hz4
    have hbe:bs { data:=#[] }=[]:=rfl
    by_cases h5:checkV (ma) (mi) (pa) (bs { data:=#[] })=0
    ·have H5:=Hy h5
     rw[h5]
     clear h5
     go_wp2
     refine bodyPost_ret (v:=.tuple #[verVal (ma) (mi) (pa) ⟨#[]⟩,.int .i64 0]) (by simp[results,Tryz.results14,go_sem,hc1,hc2,hz2,hz3]) rfl (post_next (next_ok H0.out HN.out H5.out) ?_)
     exact Ext.ad
    ·go_wp2
     refine bodyPost_ret (v:=.tuple #[verVal 0 0 0 ⟨#[]⟩,.int .i64 3]) (by simp[results,Tryz.results14,go_sem,hc1,hc2,hz2,hz3]) rfl (post_next (next_out H0.out HN.out h5) ?_)
     exact Ext.ad
  have hN:nextN ma mi pa (bs ea) part=none:=by rw[nextN,if_neg hp0,if_neg hp1,if_neg hp2]
  have HN:=Hy hN
  have b0:(part==0)=false:=by simpa using hp0
  have b1:(part==1)=false:=by simpa using hp1
  have b2:(part==2)=false:=by simpa using hp2
  have b3:(part != 2)=true:=by simpa using hp2
  clear hN hp0 hp1 hp2
  go_wp2
  refine bodyPost_ret (v:=.tuple #[verVal 0 0 0 ⟨#[]⟩,.int .i64 3]) (by simp[results,Tryz.results14,go_sem,hc1,hz2]) rfl (post_next (next_none H0.out HN.out) ?_)
  exact Ext.ad
 ·go_wp2
  refine bodyPost_ret (v:=.tuple #[verVal 0 0 0 ⟨#[]⟩,.int .i64 (checkV ma mi pa (bs ea))]) (by simp[results,Tryz.results14,go_sem,hc1]) rfl (post_next (next_err h0) ?_)
  exact Ext.ad
end Go.Proofs.YtmnafaaijglnfaaGreatDoor
