/- Contract of outref2.NextOf. -/
import Derived.Test.YtmnafaaijglnfaaGreatDoorOm06
namespace Go.Proofs.YtmnafaaijglnfaaGreatDoor
open Go.RowKit
theorem check_plain (x y z:Int):checkV x y z []=0∨checkV x y z []=3:=by
 unfold checkV
 split
 ·exact .inr rfl
 ·exact .inl rfl
theorem In_part (n:Int) (w:World) :
 Calls Tryz.prog 58 #[.int .i64 n,.int .i64 0,.int .i64 2] w fun e w'=>e=.returned (.bool (decide (0<=n∧n<=2)))∧w=w':=In_any n 0 2 w
theorem first_zero (x:Int):firstI [x,0]=x:=by
 simp only[firstI]
 by_cases h:x=0
 ·simp[h]
 ·simp[h]
theorem first_three_0 {x:Int} (h:x=0):firstI [x,3]=3:=by simp[firstI,h]
theorem first_three_1 {x:Int} (h:x≠0):firstI [x,3]=x:=by simp[firstI,h]
set_option maxHeartbeats 8000000 in
theorem NextOf_any (ma mi pa part:Int) (ea:ByteArray) (w:World) (hg:Good w) (hs:ea.size<=2097152) :
 Calls Tryz.prog 15 #[.agg #[.int .i64 ma,.int .i64 mi,.int .i64 pa,.string ea],.int .i64 part] w (NextPost ma mi pa (bs ea) part w):=by
 go_enter Tryz.func15,Tryz.ntmps15
 go_wp2_with fail
 refine (VersionError_any _ _ [⟨ma,mi,pa,ea⟩] _ (hg.ext Ext.au) ?_ ?_ (by simp)).mono ?_
 ·exact VerS.one (by go_simp) (by go_simp) (by go_simp) (by go_simp)
 ·intro v hv
  rw[List.mem_singleton] at hv
  subst hv
  exact hs
 rw[err_one]
 rintro e w1 ⟨rfl,hx1⟩
 obtain⟨hc1,hf1⟩:=hx1.cells
 have z1:=hx1.size
 have z2:w.heap.size+1 < w1.heap.size:=by simp at z1;omega
 have z1:w.heap.size < w1.heap.size:=by omega
 have hxx:Ext w w1:=Ext.trans Ext.au hx1
 by_cases hp:0<=part∧part<=2
 ·have hd:decide (0<=part∧part<=2)=true:=decide_eq_true hp
  go_wp2_with fail
  refine (In_part _ _).mono ?_
  rintro e w' ⟨rfl,rfl⟩
  rw[hd]
  go_wp2_with fail
  refine (When_any _ _ _).mono ?_
  rintro e w' ⟨rfl,rfl⟩
  go_wp2_with fail
  refine (First_any _ _ [checkV ma mi pa (bs ea),0] _ ?_ (by simp)).mono ?_
  ·intro k hk
   rw[World.cell?_alloc_at _ _ _ _ rfl]
   match k,hk with
   | 0,_=>rfl
   | 1,_=>rfl
  rintro e w' ⟨rfl,rfl⟩
  rw[first_zero]
  by_cases h0:checkV ma mi pa (bs ea)=0
  rotate_left
  ·have hbn:(checkV ma mi pa (bs ea) != 0)=true:=by rw[bne_iff_ne];exact h0
   have HE:=Hy h0
   clear h0
   go_wp2
   refine bodyPost_ret (v:=.tuple #[verVal 0 0 0 ⟨#[]⟩,.int .i64 (checkV ma mi pa (bs ea))]) (by simp[results,Tryz.results15,go_sem,hc1,z2]) rfl (post_next (next_err HE.out) ?_)
   exact Ext.ad
  obtain⟨p1,p2,p3,p4⟩:=checkV_ok h0
  obtain⟨p1,p1'⟩:=p1
  obtain⟨p2,p2'⟩:=p2
  obtain⟨p3,p3'⟩:=p3
  have H0:=Hy h0
  rw[h0]
  clear h0 p4 hd
  have bA0:=(((Blk.new w 23 #[.int .i64 ma,.int .i64 mi,.int .i64 pa,.string ea]).alloc (.cells #[.int .i64 0,.int .i64 0,.int .i64 0,.string ⟨#[]⟩] 23)).alloc (.cells #[.int .i64 ma,.int .i64 mi,.int .i64 pa,.string ea] 23)).ext hx1
  have bR0:=((Blk.new (w.alloc (.cells #[.int .i64 ma,.int .i64 mi,.int .i64 pa,.string ea] 23)) 23 #[.int .i64 0,.int .i64 0,.int .i64 0,.string ⟨#[]⟩]).alloc (.cells #[.int .i64 ma,.int .i64 mi,.int .i64 pa,.string ea] 23)).ext hx1
  rw[World.size_alloc] at bR0
  have bA:=bA0.alloc (.cells #[.int .i64 0,.int .i64 0] 24)
  have bR:=bR0.alloc (.cells #[.int .i64 0,.int .i64 0] 24)
  have hx2:Ext w (w1.alloc (.cells #[.int .i64 0,.int .i64 0] 24)):=hxx.alloc _
  clear hc1 hf1 hx1 bA0 bR0 hxx z1 z2
  generalize (w1.alloc (.cells #[.int .i64 0,.int .i64 0] 24))=W2 at *
  have cA:=bA.cell
  have cR:=bR.cell
  have fA:=bA.free
  have fR:=bR.free
  have zA:=bA.lt
  have zR:=bR.lt
  have hpp:part=0∨part=1∨part=2:=by omega
  clear hp
  rcases Nat.eq_zero_or_pos ea.size with hs0|hs0
  ·have hi:=emp_bool hs0
   rcases hpp with rfl|rfl|rfl
   ·have hN:nextN ma mi pa (bs ea) 0=some (ma+1,0,0):=by rw[nextN,if_pos rfl]
    have HN:=Hy hN
    clear hN
    go_wp2_with fail
    refine (VersionError_any _ _ [⟨ma+1,0,0,⟨#[]⟩⟩] _ (hg.ext ?_) ?_ ?_ (by simp)).mono ?_
    ·exact Ext.ad
    ·exact VerS.one (by go_simp) (by go_simp) (by go_simp) (by go_simp)
    ·intro v hv
     rw[List.mem_singleton] at hv
     subst hv
     exact Nat.zero_le _
    rw[err_one]
    rintro e w3 ⟨rfl,hx3⟩
    have bA3:=((((((bA.set 3 _).set 0 _).set 1 _).set 2 _).set 3 _).alloc _).ext hx3
    have bR3:=((((((bR.far (by simp) _).far (by simp) _).far (by simp) _).far (by simp) _).far (by simp) _).alloc _).ext hx3
    have hx4:Ext w w3:=Ext.trans Ext.ad hx3
    clear cA cR fA fR zA zR
    have cA3:=bA3.cell
    have cR3:=bR3.cell
    have fA3:=bA3.free
    have fR3:=bR3.free
    by_cases h5:checkV (ma+1) (0) (0) (bs { data:=#[] })=0
    ·have H5:=Hy h5
     rw[h5]
     clear h5
     go_wp2
     refine bodyPost_ret (v:=.tuple #[verVal (ma+1) (0) (0) ⟨#[]⟩,.int .i64 0]) (by simp[results,Tryz.results15,go_sem,cR3]) rfl (post_next (next_ok H0.out HN.out H5.out) ?_)
     exact Ext.ad
    ·have h6:checkV (ma+1) (0) (0) (bs { data:=#[] })=3:=(check_plain _ _ _).resolve_left h5
     have H5:=Hy h5
     rw[h6]
     clear h5 h6
     go_wp2
     refine bodyPost_ret (v:=.tuple #[verVal 0 0 0 ⟨#[]⟩,.int .i64 3]) (by simp[results,Tryz.results15,go_sem,cR3]) rfl (post_next (next_out H0.out HN.out H5.out) ?_)
     exact Ext.ad
   ·have hN:nextN ma mi pa (bs ea) 1=some (ma,mi+1,0):=by rw[nextN,if_neg (by decide),if_pos rfl]
    have HN:=Hy hN
    clear hN
    go_wp2_with fail
    refine (VersionError_any _ _ [⟨ma,mi+1,0,⟨#[]⟩⟩] _ (hg.ext ?_) ?_ ?_ (by simp)).mono ?_
    ·exact Ext.ad
    ·exact VerS.one (by go_simp) (by go_simp) (by go_simp) (by go_simp)
    ·intro v hv
     rw[List.mem_singleton] at hv
     subst hv
     exact Nat.zero_le _
    rw[err_one]
    rintro e w3 ⟨rfl,hx3⟩
    have bA3:=((((((bA.set 3 _).set 0 _).set 1 _).set 2 _).set 3 _).alloc _).ext hx3
    have bR3:=((((((bR.far (by simp) _).far (by simp) _).far (by simp) _).far (by simp) _).far (by simp) _).alloc _).ext hx3
    have hx4:Ext w w3:=Ext.trans Ext.ad hx3
    clear cA cR fA fR zA zR
    have cA3:=bA3.cell
    have cR3:=bR3.cell
    have fA3:=bA3.free
    have fR3:=bR3.free
    by_cases h5:checkV (ma) (mi+1) (0) (bs { data:=#[] })=0
    ·have H5:=Hy h5
     rw[h5]
     clear h5
     go_wp2
     refine bodyPost_ret (v:=.tuple #[verVal (ma) (mi+1) (0) ⟨#[]⟩,.int .i64 0]) (by simp[results,Tryz.results15,go_sem,cR3]) rfl (post_next (next_ok H0.out HN.out H5.out) ?_)
     exact Ext.ad
    ·have h6:checkV (ma) (mi+1) (0) (bs { data:=#[] })=3:=(check_plain _ _ _).resolve_left h5
     have H5:=Hy h5
     rw[h6]
     clear h5 h6
     go_wp2
     refine bodyPost_ret (v:=.tuple #[verVal 0 0 0 ⟨#[]⟩,.int .i64 3]) (by simp[results,Tryz.results15,go_sem,cR3]) rfl (post_next (next_out H0.out HN.out H5.out) ?_)
     exact Ext.ad
   ·have hN:nextN ma mi pa (bs ea) 2=some (ma,mi,pa+1):=by rw[nextN,if_neg (by decide),if_neg (by decide),if_pos rfl,if_pos (bs_nil hs0)]
    have HN:=Hy hN
    clear hN
    go_wp2_with fail
    refine (VersionError_any _ _ [⟨ma,mi,pa+1,⟨#[]⟩⟩] _ (hg.ext ?_) ?_ ?_ (by simp)).mono ?_
    ·exact Ext.ad
    ·exact VerS.one (by go_simp) (by go_simp) (by go_simp) (by go_simp)
    ·intro v hv
     rw[List.mem_singleton] at hv
     subst hv
     exact Nat.zero_le _
    rw[err_one]
    rintro e w3 ⟨rfl,hx3⟩
    have bA3:=(((bA.set 3 _).set 2 _).alloc _).ext hx3
    have bR3:=(((bR.far (by simp) _).far (by simp) _).alloc _).ext hx3
    have hx4:Ext w w3:=Ext.trans Ext.ad hx3
    clear cA cR fA fR zA zR
    have cA3:=bA3.cell
    have cR3:=bR3.cell
    have fA3:=bA3.free
    have fR3:=bR3.free
    by_cases h5:checkV (ma) (mi) (pa+1) (bs { data:=#[] })=0
    ·have H5:=Hy h5
     rw[h5]
     clear h5
     go_wp2
     refine bodyPost_ret (v:=.tuple #[verVal (ma) (mi) (pa+1) ⟨#[]⟩,.int .i64 0]) (by simp[results,Tryz.results15,go_sem,cR3]) rfl (post_next (next_ok H0.out HN.out H5.out) ?_)
     exact Ext.ad
    ·have h6:checkV (ma) (mi) (pa+1) (bs { data:=#[] })=3:=(check_plain _ _ _).resolve_left h5
     have H5:=Hy h5
     rw[h6]
     clear h5 h6
     go_wp2
     refine bodyPost_ret (v:=.tuple #[verVal 0 0 0 ⟨#[]⟩,.int .i64 3]) (by simp[results,Tryz.results15,go_sem,cR3]) rfl (post_next (next_out H0.out HN.out H5.out) ?_)
     exact Ext.ad
  ·have hi:=nemp_bool hs0
   have hne:¬ bs ea=[]:=fun e=>by have:=bs_length ea;rw[e] at this;simp at this;omega
   have HNE:=Hy hne
   clear hne
   rcases hpp with rfl|rfl|rfl
   ·have hN:nextN ma mi pa (bs ea) 0=some (ma+1,0,0):=by rw[nextN,if_pos rfl]
    have HN:=Hy hN
    clear hN
    go_wp2_with fail
    refine (VersionError_any _ _ [⟨ma+1,0,0,⟨#[]⟩⟩] _ (hg.ext ?_) ?_ ?_ (by simp)).mono ?_
    ·exact Ext.ad
    ·exact VerS.one (by go_simp) (by go_simp) (by go_simp) (by go_simp)
    ·intro v hv
     rw[List.mem_singleton] at hv
     subst hv
     exact Nat.zero_le _
    rw[err_one]
    rintro e w3 ⟨rfl,hx3⟩
    have bA3:=((((((bA.set 3 _).set 0 _).set 1 _).set 2 _).set 3 _).alloc _).ext hx3
    have bR3:=((((((bR.far (by simp) _).far (by simp) _).far (by simp) _).far (by simp) _).far (by simp) _).alloc _).ext hx3
    have hx4:Ext w w3:=Ext.trans Ext.ad hx3
    clear cA cR fA fR zA zR
    have cA3:=bA3.cell
    have cR3:=bR3.cell
    have fA3:=bA3.free
    have fR3:=bR3.free
    by_cases h5:checkV (ma+1) (0) (0) (bs { data:=#[] })=0
    ·have H5:=Hy h5
     rw[h5]
     clear h5
     go_wp2
     refine bodyPost_ret (v:=.tuple #[verVal (ma+1) (0) (0) ⟨#[]⟩,.int .i64 0]) (by simp[results,Tryz.results15,go_sem,cR3]) rfl (post_next (next_ok H0.out HN.out H5.out) ?_)
     exact Ext.ad
    ·have h6:checkV (ma+1) (0) (0) (bs { data:=#[] })=3:=(check_plain _ _ _).resolve_left h5
     have H5:=Hy h5
     rw[h6]
     clear h5 h6
     go_wp2
     refine bodyPost_ret (v:=.tuple #[verVal 0 0 0 ⟨#[]⟩,.int .i64 3]) (by simp[results,Tryz.results15,go_sem,cR3]) rfl (post_next (next_out H0.out HN.out H5.out) ?_)
     exact Ext.ad
   ·have hN:nextN ma mi pa (bs ea) 1=some (ma,mi+1,0):=by rw[nextN,if_neg (by decide),if_pos rfl]
    have HN:=Hy hN
    clear hN
    go_wp2_with fail
    refine (VersionError_any _ _ [⟨ma,mi+1,0,⟨#[]⟩⟩] _ (hg.ext ?_) ?_ ?_ (by simp)).mono ?_
    ·exact Ext.ad
    ·exact VerS.one (by go_simp) (by go_simp) (by go_simp) (by go_simp)
    ·intro v hv
     rw[List.mem_singleton] at hv
     subst hv
     exact Nat.zero_le _
    rw[err_one]
    rintro e w3 ⟨rfl,hx3⟩
    have bA3:=((((((bA.set 3 _).set 0 _).set 1 _).set 2 _).set 3 _).alloc _).ext hx3
    have bR3:=((((((bR.far (by simp) _).far (by simp) _).far (by simp) _).far (by simp) _).far (by simp) _).alloc _).ext hx3
    have hx4:Ext w w3:=Ext.trans Ext.ad hx3
    clear cA cR fA fR zA zR
    have cA3:=bA3.cell
    have cR3:=bR3.cell
    have fA3:=bA3.free
    have fR3:=bR3.free
    by_cases h5:checkV (ma) (mi+1) (0) (bs { data:=#[] })=0
    ·have H5:=Hy h5
     rw[h5]
     clear h5
     go_wp2
     refine bodyPost_ret (v:=.tuple #[verVal (ma) (mi+1) (0) ⟨#[]⟩,.int .i64 0]) (by simp[results,Tryz.results15,go_sem,cR3]) rfl (post_next (next_ok H0.out HN.out H5.out) ?_)
     exact Ext.ad
    ·have h6:checkV (ma) (mi+1) (0) (bs { data:=#[] })=3:=(check_plain _ _ _).resolve_left h5
     have H5:=Hy h5
     rw[h6]
     clear h5 h6
     go_wp2
     refine bodyPost_ret (v:=.tuple #[verVal 0 0 0 ⟨#[]⟩,.int .i64 3]) (by simp[results,Tryz.results15,go_sem,cR3]) rfl (post_next (next_out H0.out HN.out H5.out) ?_)
     exact Ext.ad
   ·have hN:nextN ma mi pa (bs ea) 2=some (ma,mi,pa):=by rw[nextN,if_neg (by decide),if_neg (by decide),if_pos rfl,if_neg HNE.out]
    have HN:=Hy hN
    clear hN
    go_wp2_with fail
    refine (VersionError_any _ _ [⟨ma,mi,pa,⟨#[]⟩⟩] _ (hg.ext ?_) ?_ ?_ (by simp)).mono ?_
    ·exact Ext.ad
    ·exact VerS.one (by go_simp) (by go_simp) (by go_simp) (by go_simp)
    ·intro v hv
     rw[List.mem_singleton] at hv
     subst hv
     exact Nat.zero_le _
    rw[err_one]
    rintro e w3 ⟨rfl,hx3⟩
    have bA3:=((bA.set 3 _).alloc _).ext hx3
    have bR3:=((bR.far (by simp) _).alloc _).ext hx3
    have hx4:Ext w w3:=Ext.trans Ext.ad hx3
    clear cA cR fA fR zA zR
    have cA3:=bA3.cell
    have cR3:=bR3.cell
    have fA3:=bA3.free
    have fR3:=bR3.free
    by_cases h5:checkV (ma) (mi) (pa) (bs { data:=#[] })=0
    ·have H5:=Hy h5
     rw[h5]
     clear h5
     go_wp2
     refine bodyPost_ret (v:=.tuple #[verVal (ma) (mi) (pa) ⟨#[]⟩,.int .i64 0]) (by simp[results,Tryz.results15,go_sem,cR3]) rfl (post_next (next_ok H0.out HN.out H5.out) ?_)
     exact Ext.ad
    ·have h6:checkV (ma) (mi) (pa) (bs { data:=#[] })=3:=(check_plain _ _ _).resolve_left h5
     have H5:=Hy h5
     rw[h6]
     clear h5 h6
     go_wp2
     refine bodyPost_ret (v:=.tuple #[verVal 0 0 0 ⟨#[]⟩,.int .i64 3]) (by simp[results,Tryz.results15,go_sem,cR3]) rfl (post_next (next_out H0.out HN.out H5.out) ?_)
     exact Ext.ad
 ·have hd:decide (0<=part∧part<=2)=false:=decide_eq_false hp
  have hN:nextN ma mi pa (bs ea) part=none:=by rw[nextN,if_neg (by omega),if_neg (by omega),if_neg (by omega)]
  have HN:=Hy hN
  clear hN hp
  go_wp2_with fail
  refine (In_part _ _).mono ?_
  rintro e w' ⟨rfl,rfl⟩
  rw[hd]
  go_wp2_with fail
  refine (When_any _ _ _).mono ?_
  rintro e w' ⟨rfl,rfl⟩
  go_wp2_with fail
  refine (First_any _ _ [checkV ma mi pa (bs ea),3] _ ?_ (by simp)).mono ?_
  ·intro k hk
   rw[World.cell?_alloc_at _ _ _ _ rfl]
   match k,hk with
   | 0,_=>rfl
   | 1,_=>rfl
  rintro e w' ⟨rfl,rfl⟩
  by_cases h0:checkV ma mi pa (bs ea)=0
  ·have H0:=Hy h0
   rw[first_three_0 h0]
   clear h0
   go_wp2
   refine bodyPost_ret (v:=.tuple #[verVal 0 0 0 ⟨#[]⟩,.int .i64 3]) (by simp[results,Tryz.results15,go_sem,hc1,z2]) rfl (post_next (next_none H0.out HN.out) ?_)
   exact Ext.ad
  ·have hbn:(checkV ma mi pa (bs ea) != 0)=true:=by rw[bne_iff_ne];exact h0
   have HE:=Hy h0
   rw[first_three_1 h0]
   clear h0
   go_wp2
   refine bodyPost_ret (v:=.tuple #[verVal 0 0 0 ⟨#[]⟩,.int .i64 (checkV ma mi pa (bs ea))]) (by simp[results,Tryz.results15,go_sem,hc1,z2]) rfl (post_next (next_err HE.out) ?_)
   exact Ext.ad
end Go.Proofs.YtmnafaaijglnfaaGreatDoor
