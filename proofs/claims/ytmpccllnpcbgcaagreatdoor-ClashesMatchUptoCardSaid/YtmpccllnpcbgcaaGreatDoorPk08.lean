/- Contract of outref2.NextOf. Maps of strings that the call itself has made. Plain law: the words of a text that is put together from pieces. Plain law: the text of a condition, its words. Plain law: a printed condition is read back. A condition among the arguments. Plain law: the value of a key among ordered settings. A set of names that the call itself has made; its names in order. A map of marks that are known; a table from which names are taken out. Plain law: tables of settings that rules change. Tables in memory: their keys, how many; ranges over them. Maps that the call itself has made, keyed by any values that can be keys: what they hold, key by key; ranges over them. Pairs of a number and a text as keys of maps. append of many elements onto what is left of a queue. (As AppQ, without the texts that AppQ needs.) -/
import Derived.Test.YtmpccllnpcbgcaaGreatDoorPk04
import Derived.Maps.OwnSet
import Derived.Maps.StringElems
import Derived.Sort.Walk0
import Derived.Sort.KeysCollected
import Derived.Lib.SlicesCompact
import Derived.Maps.RangeWalk
import Derived.Deep.Upon
import Derived.ArgAppend
namespace Go.Proofs.YtmpccllnpcbgcaaGreatDoor
section
open Go.RowKit
theorem check_plain (x y z:Int):checkV x y z []=0∨checkV x y z []=3:=by
 unfold checkV
 split
 ·exact .inr rfl
 ·exact .inl rfl
theorem In_part (n:Int) (w:World) :
 Calls Tryz.prog 70 #[.int .i64 n,.int .i64 0,.int .i64 2] w fun e w'=>e=.returned (.bool (decide (0<=n∧n<=2)))∧w=w':=In_any n 0 2 w
theorem first_zero (x:Int):firstI [x,0]=x:=by
 simp only[firstI]
 by_cases h:x=0
 ·simp[h]
 ·simp[h]
theorem first_three_0 {x:Int} (h:x=0):firstI [x,3]=3:=by simp[firstI,h]
theorem first_three_1 {x:Int} (h:x≠0):firstI [x,3]=x:=by simp[firstI,h]
set_option maxHeartbeats 8000000 in
theorem NextOf_any (ma mi pa part:Int) (ea:ByteArray) (w:World) (hg:Good w) (hs:ea.size<=2097152) :
 Calls Tryz.prog 15 #[.agg #[.int .i64 ma,.int .i64 mi,.int .i64 pa,.string ea],.int .i64 part] w (NextPost ma mi pa (bs ea) part w):=by
 go_enter Tryz.func15,Tryz.ntmps15
 go_wp2_with fail
 refine (VersionError_any _ _ [⟨ma,mi,pa,ea⟩] _ (hg.ext Ext.au) ?_ ?_ (by simp)).mono ?_
 ·exact VerS.one (by go_simp) (by go_simp) (by go_simp) (by go_simp)
 ·intro v hv
  rw[List.mem_singleton] at hv
  subst hv
  exact hs
 rw[err_one]
 rintro e w1 ⟨rfl,hx1⟩
 obtain⟨hc1,hf1⟩:=hx1.cells
 have z1:=hx1.size
 have z2:w.heap.size+1 < w1.heap.size:=by simp at z1;omega
 have z1:w.heap.size < w1.heap.size:=by omega
 have hxx:Ext w w1:=Ext.trans Ext.au hx1
 by_cases hp:0<=part∧part<=2
 ·have hd:decide (0<=part∧part<=2)=true:=decide_eq_true hp
  go_wp2_with fail
  refine (In_part _ _).mono ?_
  rintro e w' ⟨rfl,rfl⟩
  rw[hd]
  go_wp2_with fail
  refine (When_any _ _ _).mono ?_
  rintro e w' ⟨rfl,rfl⟩
  go_wp2_with fail
  refine (First_any _ _ [checkV ma mi pa (bs ea),0] _ ?_ (by simp)).mono ?_
  ·intro k hk
   rw[World.cell?_alloc_at _ _ _ _ rfl]
   match k,hk with
   | 0,_=>rfl
   | 1,_=>rfl
  rintro e w' ⟨rfl,rfl⟩
  rw[first_zero]
  by_cases h0:checkV ma mi pa (bs ea)=0
  rotate_left
  ·have hbn:(checkV ma mi pa (bs ea) != 0)=true:=by rw[bne_iff_ne];exact h0
   have HE:=Hy h0
   clear h0
   go_wp2
   refine bodyPost_ret (v:=.tuple #[verVal 0 0 0 ⟨#[]⟩,.int .i64 (checkV ma mi pa (bs ea))]) (by simp[results,Tryz.results15,go_sem,hc1,z2]) rfl (post_next (next_err HE.out) ?_)
   exact Ext.ad
  obtain⟨p1,p2,p3,p4⟩:=checkV_ok h0
  obtain⟨p1,p1'⟩:=p1
  obtain⟨p2,p2'⟩:=p2
  obtain⟨p3,p3'⟩:=p3
  have H0:=Hy h0
  rw[h0]
  clear h0 p4 hd
  have bA0:=(((Blk.new w 23 #[.int .i64 ma,.int .i64 mi,.int .i64 pa,.string ea]).alloc (.cells #[.int .i64 0,.int .i64 0,.int .i64 0,.string ⟨#[]⟩] 23)).alloc (.cells #[.int .i64 ma,.int .i64 mi,.int .i64 pa,.string ea] 23)).ext hx1
  have bR0:=((Blk.new (w.alloc (.cells #[.int .i64 ma,.int .i64 mi,.int .i64 pa,.string ea] 23)) 23 #[.int .i64 0,.int .i64 0,.int .i64 0,.string ⟨#[]⟩]).alloc (.cells #[.int .i64 ma,.int .i64 mi,.int .i64 pa,.string ea] 23)).ext hx1
  rw[World.size_alloc] at bR0
  have bA:=bA0.alloc (.cells #[.int .i64 0,.int .i64 0] 24)
  have bR:=bR0.alloc (.cells #[.int .i64 0,.int .i64 0] 24)
  have hx2:Ext w (w1.alloc (.cells #[.int .i64 0,.int .i64 0] 24)):=hxx.alloc _
  clear hc1 hf1 hx1 bA0 bR0 hxx z1 z2
  generalize (w1.alloc (.cells #[.int .i64 0,.int .i64 0] 24))=W2 at *
  have cA:=bA.cell
  have cR:=bR.cell
  have fA:=bA.free
  have fR:=bR.free
  have zA:=bA.lt
  have zR:=bR.lt
  have hpp:part=0∨part=1∨part=2:=by omega
  clear hp
  rcases Nat.eq_zero_or_pos ea.size with hs0|hs0
  ·have hi:=emp_bool hs0
   rcases hpp with rfl|rfl|rfl
   ·have hN:nextN ma mi pa (bs ea) 0=some (ma+1,0,0):=by rw[nextN,if_pos rfl]
    have HN:=Hy hN
    clear hN
    go_wp2_with fail
    refine (VersionError_any _ _ [⟨ma+1,0,0,⟨#[]⟩⟩] _ (hg.ext ?_) ?_ ?_ (by simp)).mono ?_
    ·exact Ext.ad
    ·exact VerS.one (by go_simp) (by go_simp) (by go_simp) (by go_simp)
    ·intro v hv
     rw[List.mem_singleton] at hv
     subst hv
     exact Nat.zero_le _
    rw[err_one]
    rintro e w3 ⟨rfl,hx3⟩
    have bA3:=((((((bA.set 3 _).set 0 _).set 1 _).set 2 _).set 3 _).alloc _).ext hx3
    have bR3:=((((((bR.far (by simp) _).far (by simp) _).far (by simp) _).far (by simp) _).far (by simp) _).alloc _).ext hx3
    have hx4:Ext w w3:=Ext.trans Ext.ad hx3
    clear cA cR fA fR zA zR
    have cA3:=bA3.cell
    have cR3:=bR3.cell
    have fA3:=bA3.free
    have fR3:=bR3.free
    by_cases h5:checkV (ma+1) (0) (0) (bs { data:=#[] })=0
    ·have H5:=Hy h5
     rw[h5]
     clear h5
     go_wp2
     refine bodyPost_ret (v:=.tuple #[verVal (ma+1) (0) (0) ⟨#[]⟩,.int .i64 0]) (by simp[results,Tryz.results15,go_sem,cR3]) rfl (post_next (next_ok H0.out HN.out H5.out) ?_)
     exact Ext.ad
    ·have h6:checkV (ma+1) (0) (0) (bs { data:=#[] })=3:=(check_plain _ _ _).resolve_left h5
     have H5:=Hy h5
     rw[h6]
     clear h5 h6
     go_wp2
     refine bodyPost_ret (v:=.tuple #[verVal 0 0 0 ⟨#[]⟩,.int .i64 3]) (by simp[results,Tryz.results15,go_sem,cR3]) rfl (post_next (next_out H0.out HN.out H5.out) ?_)
     exact Ext.ad
   ·have hN:nextN ma mi pa (bs ea) 1=some (ma,mi+1,0):=by rw[nextN,if_neg (by decide),if_pos rfl]
    have HN:=Hy hN
    clear hN
    go_wp2_with fail
    refine (VersionError_any _ _ [⟨ma,mi+1,0,⟨#[]⟩⟩] _ (hg.ext ?_) ?_ ?_ (by simp)).mono ?_
    ·exact Ext.ad
    ·exact VerS.one (by go_simp) (by go_simp) (by go_simp) (by go_simp)
    ·intro v hv
     rw[List.mem_singleton] at hv
     subst hv
     exact Nat.zero_le _
    rw[err_one]
    rintro e w3 ⟨rfl,hx3⟩
    have bA3:=((((((bA.set 3 _).set 0 _).set 1 _).set 2 _).set 3 _).alloc _).ext hx3
    have bR3:=((((((bR.far (by simp) _).far (by simp) _).far (by simp) _).far (by simp) _).far (by simp) _).alloc _).ext hx3
    have hx4:Ext w w3:=Ext.trans Ext.ad hx3
    clear cA cR fA fR zA zR
    have cA3:=bA3.cell
    have cR3:=bR3.cell
    have fA3:=bA3.free
    have fR3:=bR3.free
    by_cases h5:checkV (ma) (mi+1) (0) (bs { data:=#[] })=0
    ·have H5:=Hy h5
     rw[h5]
     clear h5
     go_wp2
     refine bodyPost_ret (v:=.tuple #[verVal (ma) (mi+1) (0) ⟨#[]⟩,.int .i64 0]) (by simp[results,Tryz.results15,go_sem,cR3]) rfl (post_next (next_ok H0.out HN.out H5.out) ?_)
     exact Ext.ad
    ·have h6:checkV (ma) (mi+1) (0) (bs { data:=#[] })=3:=(check_plain _ _ _).resolve_left h5
     have H5:=Hy h5
     rw[h6]
     clear h5 h6
     go_wp2
     refine bodyPost_ret (v:=.tuple #[verVal 0 0 0 ⟨#[]⟩,.int .i64 3]) (by simp[results,Tryz.results15,go_sem,cR3]) rfl (post_next (next_out H0.out HN.out H5.out) ?_)
     exact Ext.ad
   ·have hN:nextN ma mi pa (bs ea) 2=some (ma,mi,pa+1):=by rw[nextN,if_neg (by decide),if_neg (by decide),if_pos rfl,if_pos (bs_nil hs0)]
    have HN:=Hy hN
    clear hN
    go_wp2_with fail
    refine (VersionError_any _ _ [⟨ma,mi,pa+1,⟨#[]⟩⟩] _ (hg.ext ?_) ?_ ?_ (by simp)).mono ?_
    ·exact Ext.ad
    ·exact VerS.one (by go_simp) (by go_simp) (by go_simp) (by go_simp)
    ·intro v hv
     rw[List.mem_singleton] at hv
     subst hv
     exact Nat.zero_le _
    rw[err_one]
    rintro e w3 ⟨rfl,hx3⟩
    have bA3:=(((bA.set 3 _).set 2 _).alloc _).ext hx3
    have bR3:=(((bR.far (by simp) _).far (by simp) _).alloc _).ext hx3
    have hx4:Ext w w3:=Ext.trans Ext.ad hx3
    clear cA cR fA fR zA zR
    have cA3:=bA3.cell
    have cR3:=bR3.cell
    have fA3:=bA3.free
    have fR3:=bR3.free
    by_cases h5:checkV (ma) (mi) (pa+1) (bs { data:=#[] })=0
    ·have H5:=Hy h5
     rw[h5]
     clear h5
     go_wp2
     refine bodyPost_ret (v:=.tuple #[verVal (ma) (mi) (pa+1) ⟨#[]⟩,.int .i64 0]) (by simp[results,Tryz.results15,go_sem,cR3]) rfl (post_next (next_ok H0.out HN.out H5.out) ?_)
     exact Ext.ad
    ·have h6:checkV (ma) (mi) (pa+1) (bs { data:=#[] })=3:=(check_plain _ _ _).resolve_left h5
     have H5:=Hy h5
     rw[h6]
     clear h5 h6
     go_wp2
     refine bodyPost_ret (v:=.tuple #[verVal 0 0 0 ⟨#[]⟩,.int .i64 3]) (by simp[results,Tryz.results15,go_sem,cR3]) rfl (post_next (next_out H0.out HN.out H5.out) ?_)
     exact Ext.ad
  ·have hi:=nemp_bool hs0
   have hne:¬ bs ea=[]:=fun e=>by have:=bs_length ea;rw[e] at this;simp at this;omega
   have HNE:=Hy hne
   clear hne
   rcases hpp with rfl|rfl|rfl
   ·have hN:nextN ma mi pa (bs ea) 0=some (ma+1,0,0):=by rw[nextN,if_pos rfl]
    have HN:=Hy hN
    clear hN
    go_wp2_with fail
    refine (VersionError_any _ _ [⟨ma+1,0,0,⟨#[]⟩⟩] _ (hg.ext ?_) ?_ ?_ (by simp)).mono ?_
    ·exact Ext.ad
    ·exact VerS.one (by go_simp) (by go_simp) (by go_simp) (by go_simp)
    ·intro v hv
     rw[List.mem_singleton] at hv
     subst hv
     exact Nat.zero_le _
    rw[err_one]
    rintro e w3 ⟨rfl,hx3⟩
    have bA3:=((((((bA.set 3 _).set 0 _).set 1 _).set 2 _).set 3 _).alloc _).ext hx3
    have bR3:=((((((bR.far (by simp) _).far (by simp) _).far (by simp) _).far (by simp) _).far (by simp) _).alloc _).ext hx3
    have hx4:Ext w w3:=Ext.trans Ext.ad hx3
    clear cA cR fA fR zA zR
    have cA3:=bA3.cell
    have cR3:=bR3.cell
    have fA3:=bA3.free
    have fR3:=bR3.free
    by_cases h5:checkV (ma+1) (0) (0) (bs { data:=#[] })=0
    ·have H5:=Hy h5
     rw[h5]
     clear h5
     go_wp2
     refine bodyPost_ret (v:=.tuple #[verVal (ma+1) (0) (0) ⟨#[]⟩,.int .i64 0]) (by simp[results,Tryz.results15,go_sem,cR3]) rfl (post_next (next_ok H0.out HN.out H5.out) ?_)
     exact Ext.ad
    ·have h6:checkV (ma+1) (0) (0) (bs { data:=#[] })=3:=(check_plain _ _ _).resolve_left h5
     have H5:=Hy h5
     rw[h6]
     clear h5 h6
     go_wp2
     refine bodyPost_ret (v:=.tuple #[verVal 0 0 0 ⟨#[]⟩,.int .i64 3]) (by simp[results,Tryz.results15,go_sem,cR3]) rfl (post_next (next_out H0.out HN.out H5.out) ?_)
     exact Ext.ad
   ·have hN:nextN ma mi pa (bs ea) 1=some (ma,mi+1,0):=by rw[nextN,if_neg (by decide),if_pos rfl]
    have HN:=Hy hN
    clear hN
    go_wp2_with fail
    refine (VersionError_any _ _ [⟨ma,mi+1,0,⟨#[]⟩⟩] _ (hg.ext ?_) ?_ ?_ (by simp)).mono ?_
    ·exact Ext.ad
    ·exact VerS.one (by go_simp) (by go_simp) (by go_simp) (by go_simp)
    ·intro v hv
     rw[List.mem_singleton] at hv
     subst hv
     exact Nat.zero_le _
    rw[err_one]
    rintro e w3 ⟨rfl,hx3⟩
    have bA3:=((((((bA.set 3 _).set 0 _).set 1 _).set 2 _).set 3 _).alloc _).ext hx3
    have bR3:=((((((bR.far (by simp) _).far (by simp) _).far (by simp) _).far (by simp) _).far (by simp) _).alloc _).ext hx3
    have hx4:Ext w w3:=Ext.trans Ext.ad hx3
    clear cA cR fA fR zA zR
    have cA3:=bA3.cell
    have cR3:=bR3.cell
    have fA3:=bA3.free
    have fR3:=bR3.free
    by_cases h5:checkV (ma) (mi+1) (0) (bs { data:=#[] })=0
    ·have H5:=Hy h5
     rw[h5]
     clear h5
     go_wp2
     refine bodyPost_ret (v:=.tuple #[verVal (ma) (mi+1) (0) ⟨#[]⟩,.int .i64 0]) (by simp[results,Tryz.results15,go_sem,cR3]) rfl (post_next (next_ok H0.out HN.out H5.out) ?_)
     exact Ext.ad
    ·have h6:checkV (ma) (mi+1) (0) (bs { data:=#[] })=3:=(check_plain _ _ _).resolve_left h5
     have H5:=Hy h5
     rw[h6]
     clear h5 h6
     go_wp2
     refine bodyPost_ret (v:=.tuple #[verVal 0 0 0 ⟨#[]⟩,.int .i64 3]) (by simp[results,Tryz.results15,go_sem,cR3]) rfl (post_next (next_out H0.out HN.out H5.out) ?_)
     exact Ext.ad
   ·have hN:nextN ma mi pa (bs ea) 2=some (ma,mi,pa):=by rw[nextN,if_neg (by decide),if_neg (by decide),if_pos rfl,if_neg HNE.out]
    have HN:=Hy hN
    clear hN
    go_wp2_with fail
    refine (VersionError_any _ _ [⟨ma,mi,pa,⟨#[]⟩⟩] _ (hg.ext ?_) ?_ ?_ (by simp)).mono ?_
    ·exact Ext.ad
    ·exact VerS.one (by go_simp) (by go_simp) (by go_simp) (by go_simp)
    ·intro v hv
     rw[List.mem_singleton] at hv
     subst hv
     exact Nat.zero_le _
    rw[err_one]
    rintro e w3 ⟨rfl,hx3⟩
    have bA3:=((bA.set 3 _).alloc _).ext hx3
    have bR3:=((bR.far (by simp) _).alloc _).ext hx3
    have hx4:Ext w w3:=Ext.trans Ext.ad hx3
    clear cA cR fA fR zA zR
    have cA3:=bA3.cell
    have cR3:=bR3.cell
    have fA3:=bA3.free
    have fR3:=bR3.free
    by_cases h5:checkV (ma) (mi) (pa) (bs { data:=#[] })=0
    ·have H5:=Hy h5
     rw[h5]
     clear h5
     go_wp2
     refine bodyPost_ret (v:=.tuple #[verVal (ma) (mi) (pa) ⟨#[]⟩,.int .i64 0]) (by simp[results,Tryz.results15,go_sem,cR3]) rfl (post_next (next_ok H0.out HN.out H5.out) ?_)
     exact Ext.ad
    ·have h6:checkV (ma) (mi) (pa) (bs { data:=#[] })=3:=(check_plain _ _ _).resolve_left h5
     have H5:=Hy h5
     rw[h6]
     clear h5 h6
     go_wp2
     refine bodyPost_ret (v:=.tuple #[verVal 0 0 0 ⟨#[]⟩,.int .i64 3]) (by simp[results,Tryz.results15,go_sem,cR3]) rfl (post_next (next_out H0.out HN.out H5.out) ?_)
     exact Ext.ad
 ·have hd:decide (0<=part∧part<=2)=false:=decide_eq_false hp
  have hN:nextN ma mi pa (bs ea) part=none:=by rw[nextN,if_neg (by omega),if_neg (by omega),if_neg (by omega)]
  have HN:=Hy hN
  clear hN hp
  go_wp2_with fail
  refine (In_part _ _).mono ?_
  rintro e w' ⟨rfl,rfl⟩
  rw[hd]
  go_wp2_with fail
  refine (When_any _ _ _).mono ?_
  rintro e w' ⟨rfl,rfl⟩
  go_wp2_with fail
  refine (First_any _ _ [checkV ma mi pa (bs ea),3] _ ?_ (by simp)).mono ?_
  ·intro k hk
   rw[World.cell?_alloc_at _ _ _ _ rfl]
   match k,hk with
   | 0,_=>rfl
   | 1,_=>rfl
  rintro e w' ⟨rfl,rfl⟩
  by_cases h0:checkV ma mi pa (bs ea)=0
  ·have H0:=Hy h0
   rw[first_three_0 h0]
   clear h0
   go_wp2
   refine bodyPost_ret (v:=.tuple #[verVal 0 0 0 ⟨#[]⟩,.int .i64 3]) (by simp[results,Tryz.results15,go_sem,hc1,z2]) rfl (post_next (next_none H0.out HN.out) ?_)
   exact Ext.ad
  ·have hbn:(checkV ma mi pa (bs ea) != 0)=true:=by rw[bne_iff_ne];exact h0
   have HE:=Hy h0
   rw[first_three_1 h0]
   clear h0
   go_wp2
   refine bodyPost_ret (v:=.tuple #[verVal 0 0 0 ⟨#[]⟩,.int .i64 (checkV ma mi pa (bs ea))]) (by simp[results,Tryz.results15,go_sem,hc1,z2]) rfl (post_next (next_err HE.out) ?_)
   exact Ext.ad
end
section
open Go.RowKit
open Go.Maps (Keyed)
theorem str_under:Tryz.prog.underlying 9=some .string:=by kernel_rfl
theorem str_zero (w:World):(zeroValue 9).run Tryz.prog w=.ok (.string ⟨#[]⟩) w:=by go_simp
def StrMap (w:World) (b n:Nat) (f:Str->Option Str):Prop :=
 ∃ D:DataW PUnit,w.ownsMap Tryz.prog 9 (plainElem Tryz.prog 9) b n D∧(∀ s,f s=none->Maps.has D (.string s)=false)∧∀ s v,f s=some v->Maps.has D (.string s)=true∧∀ z,D.atKey (.string s) z=.lit (.string v)
namespace StrMap
variable {w w':World} {b n:Nat} {f:Str->Option Str}
theorem made (w:World):StrMap (w.alloc (.map #[] 0)) w.heap.size 0 (fun _=>none) :=
 ⟨.map [],World.ownsMap_made w _ _ _,fun _ _=>rfl,fun _ _ h=>by cases h⟩
theorem ext (h:StrMap w b n f) (hx:Ext w w'):StrMap w' b n f:=by
 obtain⟨D,h,r⟩:=h
 exact⟨D,h.kept (row:=none) ⟨hx.os,hx.tape,hx.output,hx.size,fun k hk _=>hx.block k hk⟩ (by simp),r⟩
theorem lt (h:StrMap w b n f):b < w.heap.size:=by
 obtain⟨D,h,_⟩:=h
 exact h.lt
theorem mono (h:StrMap w b n f) {m:Nat} (hm:n<=m):StrMap w b m f:=by
 obtain⟨D,h,r⟩:=h
 exact⟨D,h.mono hm,r⟩
theorem look (h:StrMap w b n f) {t:TypeId} (ht:Tryz.prog.underlying t=some (.map 9 9)) (k:ByteArray) (hk:k.size<=2097152) :
 (Instr.lookup t (.map (some b)) (.string k) true).run Tryz.prog w=.ok (.tuple #[S ((f (bs k)).getD []),.bool (f (bs k)).isSome]) w:=by
 obtain⟨D,h,r1,r2⟩:=h
 obtain⟨v,ps,hrun,hv⟩:=h.look_ok (Maps.string_keyed str_under) ht (str_zero w) (plainElem_string str_under (by decide)) (WideMaps.keyOf_string_mk str_under (s:=k) (by simp only[maxLen];omega))
 rw[hrun]
 obtain⟨s,rfl,hs,_⟩:=plainElem_string_inv str_under hv
 have hs:=congrArg Prod.fst hs
 cases hf:f (bs k) with
 | none =>
   have h0:=r1 _ hf
   have e:(DataW.lit (.string []):DataW PUnit)=.lit (.string s.data.toList):=(Maps.atKey_of_not_has h0 _).symm.trans hs
   have e:=Lit.string.inj (DataW.lit.inj e)
   have e2:s=⟨#[]⟩:=bs_inj (show bs s=bs ⟨#[]⟩ from e.symm)
   subst e2
   have h0:Maps.has D (Lit.string k.data.toList)=false:=h0
   simp only[h0]
   rfl
 | some u =>
   obtain⟨h0,h1⟩:=r2 _ _ hf
   have e:(DataW.lit (.string u):DataW PUnit)=.lit (.string s.data.toList):=(h1 _).symm.trans hs
   have e:=Lit.string.inj (DataW.lit.inj e)
   have h0:Maps.has D (Lit.string k.data.toList)=true:=h0
   have e2:S u=.string s:=by rw[show u=bs s from e,S_bs]
   simp only[h0,Option.getD_some,Option.isSome_some,e2]
theorem upd (h:StrMap w b n f) {t:TypeId} (ht:Tryz.prog.underlying t=some (.map 9 9)) (k v:ByteArray) (hk:k.size<=2097152) (hv:v.size<=2097152) (hn:n<=2097152) :
 ∃ w',(Instr.mapUpdate t (.map (some b)) (.string k) (.string v)).run Tryz.prog w=.ok () w'∧StrMap w' b (n+1) (fun x=>if x=bs k then some (bs v) else f x)∧w.grownBy w' (some b):=by
 obtain⟨D,h,r1,r2⟩:=h
 have hkey:keyOf Tryz.prog 9 (.string k)=some (.string (bs k)):=WideMaps.keyOf_string_mk str_under (by simp only[maxLen];omega)
 have hval:plainElem (H:=PUnit) Tryz.prog 9 (.string v)=some (.lit (.string (bs v)),[]):=plainElem_string str_under (by simp only[maxLen];omega)
 obtain⟨w',hrun,h',hg⟩:=h.update (Maps.string_keyed str_under) ht (by simp only[maxLen];omega) hkey hval
 refine⟨w',hrun,⟨_,h',fun s hs=>?_,fun s u hs=>?_⟩,hg⟩<;>dsimp only at hs
 ·by_cases e:s=bs k
  ·rw[if_pos e] at hs;cases hs
  ·rw[if_neg e] at hs
   rw[Maps.has_put_other (by intro e2;injection e2 with e2;exact e e2)]
   exact r1 s hs
 ·by_cases e:s=bs k
  ·rw[if_pos e] at hs
   cases hs
   subst e
   exact⟨Maps.has_put_same h.isMap (by trivial) _,fun z=>Maps.atKey_put_same h.isMap (by trivial) _ _⟩
  ·rw[if_neg e] at hs
   have hne:(Lit.string s:Lit)≠.string (bs k):=by intro e2;injection e2 with e2;exact e e2
   obtain⟨h1,h2⟩:=r2 s u hs
   exact⟨by rw[Maps.has_put_other hne];exact h1,fun z=>by rw[Maps.atKey_put_other hne];exact h2 z⟩
end StrMap
end
section
structure Aw where
 k:UInt8
 t:Str
 v:Str
def Wd.ab (d:Wd):Aw:=⟨d.k,bs d.t,bs d.v⟩
def stopS:Str->Prop
 | []=>True
 | c::_=>tokB c=false
def TokOf (L:Str) (A:List Aw):Prop:=∀ (s:ByteArray) (i:Nat) (R:Str),(bs s).drop i=L++R->stopS R->∃ W,wordsT s i=W++wordsT s (i+L.length)∧W.map Wd.ab=A
def TokS (L:Str) (A:List Aw):Prop:=∀ (s:ByteArray) (i:Nat) (R:Str),(bs s).drop i=L++R->∃ W,wordsT s i=W++wordsT s (i+L.length)∧W.map Wd.ab=A
theorem TokS.of {L:Str} {A:List Aw} (h:TokS L A):TokOf L A:=fun s i R e _=>h s i R e
end
section
abbrev sg (c:UInt8):Aw:=⟨c,[c],[]⟩
abbrev qt (x:Str):Aw:=⟨113,[],x⟩
end
section
def OkD:Nat->Cd->Prop
 | 0,.mk k n x l=>partErr k (bs n) (bs x) l.length=0∧k < 6
 | m+1,.mk k n x l=>partErr k (bs n) (bs x) l.length=0∧∀ c∈l,OkD m c
theorem OkD.part {m:Nat} {k:Int} {n x:ByteArray} {l:List Cd} (h:OkD m (.mk k n x l)):partErr k (bs n) (bs x) l.length=0:=by
 cases m with
 | zero=>exact h.1
 | succ m=>exact h.1
end
section
open Go.ChangeShapes Go.WideShapes Go.ChangeAt Go.RowKit Go.WideElems Go.Joins
theorem StrC.le {m m':Nat} (hm:m<=m') {c:Cd} (h:StrC m c):StrC m' c:=by
 induction h with
 | mk k n x l hn hx _ ih=>exact .mk k n x l (by omega) (by omega) ih
instance:Inhabited Cd:=⟨zeroC⟩
theorem bulk_mem {H:Type} {n:Nat} {D:Nat->DataW H} {i:Nat} (h:i < n):Rows.uptoBulk (D i)<=Rows.uptoBulkAll ((List.range n).map D):=by
 suffices ∀ l:List Nat,i∈l->Rows.uptoBulk (D i)<=Rows.uptoBulkAll (l.map D) from this _ (List.mem_range.2 h)
 intro l
 induction l with
 | nil=>intro h;cases h
 | cons a l ih =>
   intro h
   simp only[List.map_cons,Rows.uptoBulkAll]
   rcases List.mem_cons.1 h with rfl|h
   ·omega
   ·have:=ih h;omega
set_option maxRecDepth 100000 in
theorem opens_cond (H:Type) (enc:TypeId × Value->H) (W:World):∀ (N fuel:Nat) (cs:List Value) (x:DataW H × List MemPlace),DataW.trod enc Tryz.prog W 0 (fun _=>true) true fuel 52 cs=some x->Rows.uptoBulk x.1<=N ->
 ∃ c:Cd,CdIn (fun _=>True) W c (.agg cs.toArray)∧cnt c<=Rows.uptoBulk x.1∧StrC (Rows.uptoBulk x.1) c:=by
 intro N
 induction N with
 | zero =>
   intro fuel cs x h hb
   obtain⟨y0,y1,y2,y3,n,rfl,hl,h0,h1,h2,h3⟩:=trod_struct4 Tryz.underlying52 h
   simp only[Rows.uptoBulk,Rows.uptoBulkAll] at hb
   omega
 | succ N ih =>
   intro fuel cs x h hb
   obtain⟨y0,y1,y2,y3,n,rfl,hl,h0,h1,h2,h3⟩:=trod_struct4 Tryz.underlying52 h
   have hc:Tryz.prog.cellsOf 52=4:=by kernel_rfl
   have ci:Tryz.prog.cellsOf 3=1:=by kernel_rfl
   have cst:Tryz.prog.cellsOf 9=1:=by kernel_rfl
   have csl:Tryz.prog.cellsOf 50=1:=by kernel_rfl
   rw[hc] at hl
   match cs,hl with
   | [c0,c1,c2,c3],_ =>
     dsimp only at h0 h1 h2 h3
     rw[ci] at h0
     rw[cst] at h1 h2
     rw[csl] at h3
     obtain⟨k,e0,b0⟩:=opens_int Tryz.underlying3 H enc W n _ _ h0
     obtain⟨nm,e1,b1⟩:=opens_string Tryz.underlying9 H enc W n _ _ h1
     obtain⟨vl,e2,b2⟩:=opens_string Tryz.underlying9 H enc W n _ _ h2
     simp at e0 e1 e2
     subst e0 e1 e2
     rcases Deep.open_slice Tryz.underlying50 h3 with ⟨e3,rfl⟩|⟨a,len,cap,m,n',D,Pl,e3,_,hlc,_,hm,rfl,hx⟩
     ·simp at e3
      subst e3
      refine⟨.mk k nm vl [],CdIn.leaf _ W k nm vl,?_,?_⟩
      ·simp only[cnt_leaf,Rows.uptoBulk,Rows.uptoBulkAll];omega
      ·refine .mk _ _ _ _ ?_ ?_ (fun _ h=>by cases h)
       all_goals (simp only[Rows.uptoBulk,Rows.uptoBulkAll] at b0 b1 b2 ⊢;omega)
     ·have e3:c3=.slice (some a) len cap:=by simpa using e3
      subst e3
      have hlm:len<=m:=by rw[hm];split<;>omega
      simp only[Rows.uptoBulk,Rows.uptoBulkAll] at hb
      have each:∀ i,i < len->∃ c:Cd,(cnt c<=Rows.uptoBulk (D i)∧StrC (Rows.uptoBulk (D i)) c)∧∃ ecs:List Value,CdIn (fun _=>True) W c (.agg ecs.toArray)∧W.cells? 0 (a.add (i * 4)) 4=some ecs:=fun i hi=>by
       obtain⟨cs',g1,g2⟩:=hx i (by omega)
       have hbi:=bulk_mem (D:=D) hi
       obtain⟨c,g3,g4,g5⟩:=ih n' cs' _ g2 (by dsimp only;omega)
       rw[hc] at g1
       exact⟨c,⟨g4,g5⟩,cs',g3,g1⟩
      obtain⟨F,hF⟩:=Deep.choose_lt each
      have hrow:0 < len->∃ b off,a=⟨b,off,none⟩:=fun hp=>by
       obtain⟨_,ecs0,_,hc0⟩:=hF 0 hp
       obtain⟨_,hl0,hcell0⟩:=World.cells?_some hc0
       obtain⟨b,off,spot⟩:=a
       have g0:=hcell0 0 (by decide)
       have hv:ecs0[0]?=some ecs0[0]:=List.getElem?_eq_getElem (by omega)
       rw[hv] at g0
       have hspot:spot=none:=by
        have:=World.cell?_spot g0
        simpa [Addr.add] using this
       exact⟨b,off,by rw[hspot]⟩
      obtain⟨b,off,hab⟩:∃ b off,0 < len->a=⟨b,off,none⟩:=by
       rcases Nat.eq_zero_or_pos len with e|e
       ·exact⟨0,0,fun h=>by omega⟩
       ·obtain⟨b,off,h⟩:=hrow e;exact⟨b,off,fun _=>h⟩
      have hcell:∀ i,i < len->∃ e0 e1 e2 e3:Value,CdIn (fun _=>True) W (F i) (.agg #[e0,e1,e2,e3])∧W.cell? ⟨b,off+i * 4,none⟩=some e0∧W.cell? ⟨b,off+i * 4+1,none⟩=some e1∧W.cell? ⟨b,off+i * 4+2,none⟩=some e2∧W.cell? ⟨b,off+i * 4+3,none⟩=some e3:=fun i hi=>by
       obtain⟨_,ecs,hR,hcs⟩:=hF i hi
       rw[hab (by omega)] at hcs
       obtain⟨_,hl1,hcl⟩:=World.cells?_some hcs
       have g:∀ j,j < 4->W.cell? ⟨b,off+i * 4+j,none⟩=ecs[j]?:=fun j hj=>by
        have:=hcl j hj
        rwa [Deep.add_add,add_plain,<-Nat.add_assoc] at this
       match ecs,hl1,hR,g with
       | [e0,e1,e2,e3],_,hR,g=>exact⟨e0,e1,e2,e3,hR,g 0 (by decide),g 1 (by decide),g 2 (by decide),g 3 (by decide)⟩
      have hlen:((List.range len).map F).length=len:=by simp
      have u:∀ i,i < len->∀ j,j < 4->W.cell? ⟨b,off+i * 4+j,none⟩=some ((W.cell? ⟨b,off+i * 4+j,none⟩).getD z0):=fun i hi j hj=>by
       obtain⟨e0,e1,e2,e3,_,k0,k1,k2,k3⟩:=hcell i hi
       rcases (show j=0∨j=1∨j=2∨j=3 by omega) with rfl|rfl|rfl|rfl
       ·rw[show off+i * 4+0=off+i * 4 from rfl,k0];rfl
       ·rw[k1];rfl
       ·rw[k2];rfl
       ·rw[k3];rfl
      refine⟨.mk k nm vl ((List.range len).map F),?_,?_,?_⟩
      ·have:=CdIn.mk (P:=fun _=>True) (w:=W) k nm vl ((List.range len).map F) (some a) cap b off (fun i=>(W.cell? ⟨b,off+i * 4+0,none⟩).getD z0) (fun i=>(W.cell? ⟨b,off+i * 4+1,none⟩).getD z0) (fun i=>(W.cell? ⟨b,off+i * 4+2,none⟩).getD z0) (fun i=>(W.cell? ⟨b,off+i * 4+3,none⟩).getD z0)
        (fun h=>by rw[hab (by simpa using h)]) (fun _=>trivial) (fun j hj=>u j (by simpa using hj) 0 (by decide)) (fun j hj=>u j (by simpa using hj) 1 (by decide)) (fun j hj=>u j (by simpa using hj) 2 (by decide)) (fun j hj=>u j (by simpa using hj) 3 (by decide))
        (fun j hj=>by
          obtain⟨e0,e1,e2,e3,hR,k0,k1,k2,k3⟩:=hcell j (by simpa using hj)
          rw[show off+j * 4+0=off+j * 4 from rfl,k0,k1,k2,k3]
          simpa using hR)
       rwa [hlen] at this
      ·have:=bulkAll_le (H:=H) (n:=len) (D:=D) (bk:=fun i=>cnt (F i)) fun i hi=>(hF i hi).1.1
       have hs:∀ l:List Nat,cnts (l.map F)=(l.map fun i=>cnt (F i)).sum:=fun l=>by
        induction l with
        | nil=>rfl
        | cons a l ih=>simp only[List.map_cons,cnts,List.sum_cons,ih]
       rw[cnt_mk,hs]
       simp only[Rows.uptoBulk,Rows.uptoBulkAll]
       omega
      ·refine .mk _ _ _ _ ?_ ?_ (fun c hc=>?_)
       ·simp only[Rows.uptoBulk,Rows.uptoBulkAll] at b0 b1 b2 ⊢;omega
       ·simp only[Rows.uptoBulk,Rows.uptoBulkAll] at b0 b1 b2 ⊢;omega
       ·obtain⟨i,hi,rfl⟩:=List.mem_map.1 hc
        have hi:=List.mem_range.1 hi
        refine StrC.le ?_ (hF i hi).1.2
        have:=bulk_mem (D:=D) hi
        simp only[Rows.uptoBulk,Rows.uptoBulkAll]
        omega
end
section
theorem strLt_irrefl (a:Str):¬ a < a:=List.lt_irrefl a
theorem strLt_trans {a b c:Str} (h:a < b) (h2:b < c):a < c:=List.lt_trans h h2
theorem strLt_of {a b:Str} (h:¬ b < a) (hne:b≠a):a < b:=by
 by_cases h1:a < b
 ·exact h1
 ·exact absurd (List.le_antisymm (List.not_lt.1 h1) (List.not_lt.1 h)) hne
def Asc (l:List Se):Prop:=∀ i j (hj:j < l.length) (hi:i < j),bs (l[i]'(Nat.lt_trans hi hj)).k < bs l[j].k
end
section
open Go.RowKit Go.Maps
def inOrder (L:List Str):List Str:=oneEach (L.mergeSort leB)
theorem leB_trans (a b c:Str) (h1:leB a b=true) (h2:leB b c=true):leB a c=true:=by
 simp only[leB,decide_eq_true_eq] at *
 exact List.le_trans h1 h2
theorem leB_total (a b:Str):(leB a b||leB b a)=true:=by
 simp only[leB,Bool.or_eq_true,decide_eq_true_eq]
 exact List.le_total a b
theorem strLe_ne {a b:Str} (h:leB a b=true) (hne:a≠b):a < b:=by
 simp only[leB,decide_eq_true_eq] at h
 exact strLt_of (List.not_lt.2 h) (fun e=>hne e.symm)
theorem strLt_le {a b c:Str} (h:a < b) (h2:leB b c=true):a < c:=by
 by_cases e:b=c
 ·subst e;exact h
 ·exact strLt_trans h (strLe_ne h2 e)
theorem inOrder_strict (L:List Str):(inOrder L).Pairwise (· < ·) :=
 oneEach_strict (le:=fun a b=>leB a b=true) (fun _ _=>strLe_ne) (fun _ _ _=>strLt_le) _ (List.pairwise_mergeSort leB_trans leB_total L)
theorem inOrder_mem (L:List Str) (x:Str):x∈inOrder L↔x∈L:=by
 rw[inOrder,oneEach_mem]
 exact (List.mergeSort_perm L leB).mem_iff
theorem sorted_strict {ss:List Str} (h:ss.Nodup):(ss.mergeSort leB).Pairwise (· < ·):=by
 have h1:=List.pairwise_mergeSort leB_trans leB_total ss
 have h2:(ss.mergeSort leB).Pairwise (·≠·):=(List.mergeSort_perm ss leB).nodup_iff.2 h
 exact (h1.and h2).imp fun ⟨a,b⟩=>strLe_ne a b
theorem strKeys_are {H:Type} {P:Program} {k:TypeId} {R:Value->Option (DataW H × List MemPlace)} {w:World} {b n:Nat} {D:DataW H} (hown:w.ownsMap P k R b n D) (K:Keyed P k) (hk:P.underlying k=some .string) :
 (strKeys D).Nodup∧∀ x,x∈strKeys D↔has D (.string x)=true:=by
 obtain⟨es,hD,hpw,_⟩:=hown.entries K
 obtain⟨es',hD',hko⟩:=hown.keysOf
 obtain rfl:es=es':=by rw[hD] at hD';simpa using hD'
 subst hD
 have hs:∀ p∈es,∃ x,p.1=.string x:=fun p hp=>by obtain⟨v,hv⟩:=hko p hp;obtain⟨x,_,hx,_⟩:=Maps.keyOf_str hk hv;exact⟨x,hx⟩
 refine⟨?_,fun x=>?_⟩
 ·show (es.map fun p=>strOf p.1).Nodup
  refine List.pairwise_map.2 (hpw.imp_of_mem fun {p q} hp' hq' hne e=>hne ?_)
  obtain⟨a,ha⟩:=hs p hp'
  obtain⟨b,hb⟩:=hs q hq'
  rw[ha,hb] at e ⊢
  exact congrArg _ e
 ·rw[has_eq,List.any_eq_true]
  show x∈(es.map fun p=>strOf p.1)↔_
  rw[List.mem_map]
  constructor
  ·rintro ⟨p,hp',rfl⟩
   obtain⟨a,ha⟩:=hs p hp'
   exact⟨p,hp',by rw[ha];simp[Lit.sameKey,strOf]⟩
  ·rintro ⟨p,hp',he⟩
   obtain⟨a,ha⟩:=hs p hp'
   rw[ha] at he
   exact⟨p,hp',by rw[ha];have he2:a=x:=(by simpa [Lit.sameKey] using he);exact he2⟩
def StrSet (w:World) (b n:Nat) (L:List Str):Prop :=
 ∃ D:DataW PUnit,w.ownsMap Tryz.prog 9 (plainElem Tryz.prog 4) b n D∧∀ s,has D (.string s)=true↔s∈L
namespace StrSet
variable {w w':World} {b n:Nat} {L:List Str}
theorem made (w:World):StrSet (w.alloc (.map #[] 0)) w.heap.size 0 [] :=
 ⟨.map [],World.ownsMap_made w _ _ _,fun s=>⟨(fun h=>by cases h),(fun h=>by cases h)⟩⟩
theorem ext (h:StrSet w b n L) (hx:Ext w w'):StrSet w' b n L:=by
 obtain⟨D,h,r⟩:=h
 exact⟨D,h.kept (row:=none) ⟨hx.os,hx.tape,hx.output,hx.size,fun k hk _=>hx.block k hk⟩ (by simp),r⟩
theorem lt (h:StrSet w b n L):b < w.heap.size:=by
 obtain⟨D,h,_⟩:=h
 exact h.lt
theorem upd (h:StrSet w b n L) {t:TypeId} (ht:Tryz.prog.underlying t=some (.map 9 4)) (k:ByteArray) (hk:k.size<=4194304) (hn:n<=2097152) :
 ∃ w',(Instr.mapUpdate t (.map (some b)) (.string k) (.bool true)).run Tryz.prog w=.ok () w'∧StrSet w' b (n+1) (L++[bs k])∧w.grownBy w' (some b):=by
 obtain⟨D,h,r⟩:=h
 have hkey:keyOf Tryz.prog 9 (.string k)=some (.string (bs k)):=WideMaps.keyOf_string_mk str_under (by simp only[maxLen];omega)
 have hval:plainElem (H:=PUnit) Tryz.prog 4 (.bool true)=some (.lit (.bool true),[]):=plainElem_bool (by kernel_rfl) true
 obtain⟨w',hrun,h',hg⟩:=h.update (Maps.string_keyed str_under) ht (by simp only[maxLen];omega) hkey hval
 refine⟨w',hrun,⟨_,h',fun s=>?_⟩,hg⟩
 rw[List.mem_append,List.mem_singleton]
 by_cases e:s=bs k
 ·subst e
  exact⟨fun _=>.inr rfl,fun _=>Maps.has_put_same h.isMap (by trivial) _⟩
 ·rw[Maps.has_put_other (by intro e2;injection e2 with e2;exact e e2),r s]
  exact⟨fun h=>.inl h,fun h=>h.resolve_right e⟩
end StrSet
end
section
open Go.RowKit
open Go.Maps (Keyed has)
theorem bool_under:Tryz.prog.underlying 4=some .bool:=by kernel_rfl
theorem bool_zero (w:World):(zeroValue 4).run Tryz.prog w=.ok (.bool false) w:=by go_simp
theorem elem_bool_inv {v:Value} {x:Bool} {ps:List MemPlace} (h:plainElem (H:=PUnit) Tryz.prog 4 v=some (.lit (.bool x),ps)):v=.bool x:=by
 unfold plainElem at h
 rw[bool_under] at h
 cases v<;>simp at h
 rw[h.1]
def KSet (w:World) (b n:Nat) (L:List Str):Prop :=
 ∃ D:DataW PUnit,w.ownsMap Tryz.prog 9 (plainElem Tryz.prog 4) b n D∧∀ s,(s∈L->has D (.string s)=true∧∀ z,D.atKey (.string s) z=.lit (.bool true))∧(s ∉ L->has D (.string s)=false)
namespace KSet
variable {w w':World} {b n:Nat} {L:List Str}
theorem made (w:World):KSet (w.alloc (.map #[] 0)) w.heap.size 0 [] :=
 ⟨.map [],World.ownsMap_made w _ _ _,fun s=>⟨(fun h=>by cases h),(fun _=>rfl)⟩⟩
theorem ext (h:KSet w b n L) (hx:Ext w w'):KSet w' b n L:=by
 obtain⟨D,h,r⟩:=h
 exact⟨D,h.kept (row:=none) ⟨hx.os,hx.tape,hx.output,hx.size,fun k hk _=>hx.block k hk⟩ (by simp),r⟩
theorem lt (h:KSet w b n L):b < w.heap.size:=by
 obtain⟨D,h,_⟩:=h
 exact h.lt
theorem far (h:KSet w b n L) {g:Nat} (hg:w.grownBy w' (some g)) (hne:b≠g):KSet w' b n L:=by
 obtain⟨D,h,r⟩:=h
 exact⟨D,h.kept (row:=some g) hg (by simpa using hne),r⟩
theorem look (h:KSet w b n L) {t:TypeId} (ht:Tryz.prog.underlying t=some (.map 9 4)) (k:ByteArray) (hk:k.size<=4194304) :
 (Instr.lookup t (.map (some b)) (.string k) false).run Tryz.prog w=.ok (.bool (decide (bs k∈L))) w:=by
 obtain⟨D,h,r⟩:=h
 have hkey:keyOf Tryz.prog 9 (.string k)=some (.string (bs k)):=WideMaps.keyOf_string_mk str_under (by simp only[maxLen];omega)
 obtain⟨v,ps,hrun,hv⟩:=h.lookup (Maps.string_keyed str_under) ht (bool_zero w) (plainElem_bool bool_under false) hkey
 rw[hrun]
 by_cases hm:bs k∈L
 ·rw[((r (bs k)).1 hm).2] at hv
  rw[elem_bool_inv hv,decide_eq_true hm]
 ·have h0:=(r (bs k)).2 hm
  rw[Maps.atKey_of_not_has h0] at hv
  rw[elem_bool_inv hv,decide_eq_false hm]
theorem upd (h:KSet w b n L) {t:TypeId} (ht:Tryz.prog.underlying t=some (.map 9 4)) (k:ByteArray) (hk:k.size<=4194304) (hn:n<=2097152) :
 ∃ w',(Instr.mapUpdate t (.map (some b)) (.string k) (.bool true)).run Tryz.prog w=.ok () w'∧KSet w' b (n+1) (L++[bs k])∧w.grownBy w' (some b):=by
 obtain⟨D,h,r⟩:=h
 have hkey:keyOf Tryz.prog 9 (.string k)=some (.string (bs k)):=WideMaps.keyOf_string_mk str_under (by simp only[maxLen];omega)
 obtain⟨w',hrun,h',hg⟩:=h.update (Maps.string_keyed str_under) ht (by simp only[maxLen];omega) hkey (plainElem_bool bool_under true)
 refine⟨w',hrun,⟨_,h',fun s=>?_⟩,hg⟩
 by_cases e:s=bs k
 ·subst e
  exact⟨fun _=>⟨Maps.has_put_same h.isMap (by trivial) _,fun z=>Maps.atKey_put_same h.isMap (by trivial) _ _⟩,fun hn=>absurd (by simp) hn⟩
 ·have hne:(Lit.string s:Lit)≠.string (bs k):=by intro e2;injection e2 with e2;exact e e2
  have hm:s∈L++[bs k]↔s∈L:=by simp[e]
  rw[hm,Maps.has_put_other hne]
  exact⟨fun hs=>⟨((r s).1 hs).1,fun z=>by rw[Maps.atKey_put_other hne];exact ((r s).1 hs).2 z⟩,(r s).2⟩
end KSet
namespace StrMap
variable {w w':World} {b n:Nat} {f:Str->Option Str}
theorem far (h:StrMap w b n f) {g:Nat} (hg:w.grownBy w' (some g)) (hne:b≠g):StrMap w' b n f:=by
 obtain⟨D,h,r⟩:=h
 exact⟨D,h.kept (row:=some g) hg (by simpa using hne),r⟩
end StrMap
end
section
abbrev Tb:=Str->Option Str
def FinT (f:Tb):Prop:=∃ L:List Str,∀ x,x∈L↔(f x).isSome=true
open Classical in
noncomputable def keysOf (f:Tb):List Str:=if h:FinT f then inOrder h.choose else []
theorem keysOf_strict (f:Tb):(keysOf f).Pairwise (· < ·):=by
 unfold keysOf
 split
 ·exact inOrder_strict _
 ·exact .nil
theorem mem_keysOf {f:Tb} (h:FinT f) (x:Str):x∈keysOf f↔(f x).isSome=true:=by
 unfold keysOf
 rw[dif_pos h,inOrder_mem]
 exact h.choose_spec x
theorem keysOf_eq {f:Tb} {L:List Str} (hs:L.Pairwise (· < ·)) (hm:∀ x,x∈L↔(f x).isSome=true):L=keysOf f :=
 strict_ext (lt:=(· < ·)) strLt_irrefl (fun _ _ _=>strLt_trans) hs (keysOf_strict f) fun x=>by rw[hm,mem_keysOf ⟨L,hm⟩]
def delT (f:Tb) (k:Str):Tb:=fun x=>if x=k then none else f x
end
section
open Go.RowKit
open Go.Maps (Keyed has)
def ViewT (D:DataW PUnit) (f:Tb):Prop:=(∀ s,f s=none->has D (.string s)=false)∧∀ s v,f s=some v->has D (.string s)=true∧∀ z,D.atKey (.string s) z=.lit (.string v)
theorem ViewT.has {D:DataW PUnit} {f:Tb} (h:ViewT D f) (s:Str):has D (.string s)=(f s).isSome:=by
 cases hf:f s with
 | none=>rw[h.1 s hf];rfl
 | some v=>rw[(h.2 s v hf).1];rfl
theorem ViewT.val {D:DataW PUnit} {f:Tb} (h:ViewT D f) {s v:Str} (hs:Maps.has D (.string s)=true) (hv:∀ z,D.atKey (.string s) z=.lit (.string v)):f s=some v:=by
 cases hf:f s with
 | none=>rw[h.1 s hf] at hs;cases hs
 | some u =>
   have e:(DataW.lit (.string u):DataW PUnit)=.lit (.string v):=((h.2 s u hf).2 .nil).symm.trans (hv .nil)
   rw[Lit.string.inj (DataW.lit.inj e)]
theorem ViewT.congr {D:DataW PUnit} {f g:Tb} (h:ViewT D f) (e:f=g):ViewT D g:=e ▸ h
theorem str_keyed:Keyed Tryz.prog 9:=Maps.string_keyed str_under
theorem key_of {k:ByteArray} (hk:k.size<=4194304):keyOf Tryz.prog 9 (.string k)=some (.string (bs k)):=WideMaps.keyOf_string_mk str_under (by simp only[maxLen];omega)
theorem strKeys_size {H:Type} {P:Program} {k:TypeId} {R:Value->Option (DataW H × List MemPlace)} {w:World} {b n:Nat} {D:DataW H} (hown:w.ownsMap P k R b n D) (K:Keyed P k):(strKeys D).length=Maps.size D:=by
 obtain⟨es,rfl,_⟩:=hown.entries K
 simp[strKeys,Maps.size]
noncomputable abbrev elemS:Value->Option (DataW PUnit × List MemPlace):=plainElem Tryz.prog 9
theorem view_keys {w:World} {b n:Nat} {D:DataW PUnit} {f:Tb} (hown:w.ownsMap Tryz.prog 9 elemS b n D) (hv:ViewT D f):FinT f∧(strKeys D).mergeSort leB=keysOf f∧Maps.size D=(keysOf f).length:=by
 obtain⟨k1,k2⟩:=strKeys_are hown str_keyed str_under
 have hm:∀ x,x∈(strKeys D).mergeSort leB↔(f x).isSome=true:=fun x=>by
  rw[(List.mergeSort_perm _ leB).mem_iff,k2,hv.has]
 have he:=keysOf_eq (sorted_strict k1) hm
 exact⟨⟨_,hm⟩,he,by rw[<-he,List.length_mergeSort,strKeys_size hown str_keyed]⟩
namespace StrMap
variable {w w':World} {b n:Nat} {f:Tb}
theorem view (h:StrMap w b n f):∃ D:DataW PUnit,w.ownsMap Tryz.prog 9 elemS b n D∧ViewT D f:=by
 obtain⟨D,h,r⟩:=h
 exact⟨D,h,r⟩
theorem of_view {D:DataW PUnit} (h:w.ownsMap Tryz.prog 9 elemS b n D) (hv:ViewT D f):StrMap w b n f:=⟨D,h,hv⟩
theorem size (h:StrMap w b n f):(keysOf f).length<=n:=by
 obtain⟨D,h,r⟩:=h.view
 rw[<-(view_keys h r).2.2]
 exact h.size_le
theorem len (h:StrMap w b n f) {t:TypeId} (ht:Tryz.prog.underlying t=some (.map 9 9)) (ty:TypeId) :
 (Builtin.len_ #[t] ty #[.map (some b)]).run Tryz.prog w=.ok (.int .i64 ((keysOf f).length:Nat)) w:=by
 obtain⟨D,h,r⟩:=h.view
 rw[h.len ht ty,(view_keys h r).2.2]
theorem congr {g:Tb} (h:StrMap w b n f) (e:f=g):StrMap w b n g:=e ▸ h
theorem grown (h:StrMap w b n f) {row:Option Nat} (hg:w.grownBy w' row) (hne:some b≠row):StrMap w' b n f:=by
 obtain⟨D,h,r⟩:=h.view
 exact of_view (h.kept hg hne) r
end StrMap
theorem Blk.turned {w w':World} {g:Nat} {t:TypeId} {cs:Array Value} {row:Option Nat} (h:Blk w g t cs) (hg:w.grownBy w' row) (hne:some g≠row):Blk w' g t cs:=(hg.block g h.lt hne).trans h
theorem Ext.by {a w:World} (h:Ext a w) (row:Option Nat):a.grownBy w row:=⟨h.os,h.tape,h.output,h.size,fun k hk _=>h.block k hk⟩
theorem Ext.row {a w w':World} {b:Nat} (h:Ext a w) (hg:w.grownBy w' (some b)) (hb:a.heap.size<=b):Ext a w' :=
 ⟨hg.os.trans h.os,hg.tape.trans h.tape,hg.output.trans h.output,Nat.le_trans h.size hg.size,fun k hk=>(hg.block k (Nat.lt_of_lt_of_le hk h.size) (by intro e;cases e;omega)).trans (h.block k hk)⟩
theorem Good.table {w w':World} {b n:Nat} {f:Tb} (g:Good w) (h:StrMap w b n f) (hg:w.grownBy w' (some b)):Good w':=by
 obtain⟨m,hm⟩:=g.maxLen
 obtain⟨D,⟨es,clock,hb,_⟩,_⟩:=h.view
 refine⟨m,?_⟩
 have hne:0≠b:=fun e=>by
  unfold World.cell? at hm
  rw[e,hb] at hm
  cases hm
 have:=hg.block _ (lt_of_cell hm) (fun e=>hne (Option.some.inj e))
 unfold World.cell? at hm ⊢
 dsimp only at hm ⊢
 rw[this]
 exact hm
def RangeT (w:World) (b r n:Nat) (f:Tb) (left:Str->Bool) (cnt:Nat):Prop :=
 ∃ (D:DataW PUnit) (L:Lit->Bool),w.ranges Tryz.prog 9 elemS b r n D L cnt∧ViewT D f∧∀ s,L (.string s)=left s
namespace RangeT
variable {w w':World} {b r n cnt:Nat} {f:Tb} {left:Str->Bool}
theorem grown (h:RangeT w b r n f left cnt) {row:Option Nat} (hg:w.grownBy w' row) (hb:some b≠row) (hr:some r≠row):RangeT w' b r n f left cnt:=by
 obtain⟨D,L,h,v⟩:=h
 exact⟨D,L,h.kept hg hb hr,v⟩
theorem left_eq (h:RangeT w b r n f left cnt):w.rangeLeft b r=cnt:=by
 obtain⟨D,L,h,_⟩:=h
 exact h.left_eq
theorem cnt_le (h:RangeT w b r n f left cnt):cnt<=n:=by
 obtain⟨D,L,⟨es,clock,since,seen,c0,_,_,hs,_,_,_,hc,_⟩,_⟩:=h
 rw[<-hc]
 refine Nat.le_trans ?_ hs
 unfold Go.leftOf
 exact Array.size_filter_le
theorem ne (h:RangeT w b r n f left cnt):r≠b:=by
 obtain⟨D,L,h,_⟩:=h
 exact h.ne
theorem lt (h:RangeT w b r n f left cnt):r < w.heap.size:=by
 obtain⟨D,L,h,_⟩:=h
 exact h.lt
theorem congr {g:Tb} {l2:Str->Bool} (h:RangeT w b r n f left cnt) (e:f=g) (e2:left=l2):RangeT w b r n g l2 cnt:=e ▸ e2 ▸ h
theorem drop (h:RangeT w b r n f left cnt) {t:TypeId} (ht:Tryz.prog.underlying t=some (.map 9 9)) (k:ByteArray) (hk:k.size<=4194304) (ty:TypeId) :
 ∃ w' cnt',(Builtin.delete_ #[t,9] ty #[.map (some b),.string k]).run Tryz.prog w=.ok (.tuple #[]) w'∧RangeT w' b r n (delT f (bs k)) (fun z=>left z&&!(z==bs k)) cnt'∧cnt'<=cnt∧w.grownBy w' (some b):=by
 obtain⟨D,L,h,v,hL⟩:=h
 obtain⟨w',cnt',hrun,h',hc,hg⟩:=h.drop str_keyed ht (key_of hk) ty
 refine⟨w',cnt',hrun,⟨_,_,h',⟨fun s hs=>?_,fun s u hs=>?_⟩,fun s=>?_⟩,hc,hg.grown⟩
 ·unfold delT at hs
  by_cases e:s=bs k
  ·subst e;exact Maps.has_del_same
  ·rw[if_neg e] at hs
   rw[Maps.has_del_other (by intro e2;injection e2 with e2;exact e e2)]
   exact v.1 s hs
 ·unfold delT at hs
  by_cases e:s=bs k
  ·rw[if_pos e] at hs;cases hs
  ·rw[if_neg e] at hs
   have hne:(Lit.string s:Lit)≠.string (bs k):=by intro e2;injection e2 with e2;exact e e2
   obtain⟨h1,h2⟩:=v.2 s u hs
   exact⟨by rw[Maps.has_del_other hne];exact h1,fun z=>by rw[Maps.atKey_del_other hne];exact h2 z⟩
 ·rw[hL];rfl
end RangeT
end
section
open Go.RowKit
open Go.Maps (Keyed has)
structure KeyT (t:TypeId) (K:Type) where
 val:K->Value
 ok:K->Prop
 lit:K->Lit
 keyed:Keyed Tryz.prog t
 of:∀ {k},ok k->keyOf Tryz.prog t (val k)=some (lit k)
 back:∀ {x l},keyOf Tryz.prog t x=some l->∃ k,x=val k∧ok k
 inj:∀ {k k'},val k=val k'->k=k'
namespace KeyT
variable {t:TypeId} {K:Type} (κ:KeyT t K)
theorem lit_inj {v u:K} (h:κ.ok v) (k:κ.ok u) (e:κ.lit v=κ.lit u):v=u:=by
 have h1:=κ.of h
 have h2:=κ.of k
 rw[<-e] at h2
 exact κ.inj (κ.keyed.inj h1 h2)
theorem isKey {v:K} (h:κ.ok v):WideAt.IsKeyLit (κ.lit v):=Keyed.key κ.keyed (κ.of h)
end KeyT
noncomputable def keyStr:KeyT 9 ByteArray where
 val:=Value.string
 ok s:=s.size<=maxLen
 lit s:=.string (bs s)
 keyed:=str_keyed
 of h:=WideMaps.keyOf_string_mk str_under h
 back {x l} h:=by
  unfold keyOf at h
  rw[str_under] at h
  cases x<;>simp[mapKey] at h
  exact⟨_,rfl,h.1⟩
 inj h:=Value.string.inj h
noncomputable abbrev elemV:Value->Option (DataW Value × List MemPlace):=fun v=>some (.held v,[])
section
variable {t:TypeId} {K:Type} {κ:KeyT t K}
def ViewK (κ:KeyT t K) (D:DataW Value) (f:K->Option Value):Prop:=∀ v,κ.ok v->(f v=none->has D (κ.lit v)=false)∧∀ u,f v=some u->has D (κ.lit v)=true∧∀ z,D.atKey (κ.lit v) z=.held u
theorem ViewK.has {D:DataW Value} {f:K->Option Value} (h:ViewK κ D f) {v:K} (hv:κ.ok v):has D (κ.lit v)=(f v).isSome:=by
 cases hf:f v with
 | none=>rw[(h v hv).1 hf];rfl
 | some u=>rw[((h v hv).2 u hf).1];rfl
theorem ViewK.value {D:DataW Value} {f:K->Option Value} (h:ViewK κ D f) {v:K} (hv:κ.ok v) {u:Value} (hs:Maps.has D (κ.lit v)=true) (hz:∀ z,D.atKey (κ.lit v) z=.held u):f v=some u:=by
 cases hf:f v with
 | none=>rw[(h v hv).1 hf] at hs;cases hs
 | some u2 =>
   have e:(DataW.held u2:DataW Value)=.held u:=(((h v hv).2 u2 hf).2 .nil).symm.trans (hz .nil)
   rw[DataW.held.inj e]
def HMap (κ:KeyT t K) (w:World) (b n:Nat) (f:K->Option Value):Prop:=∃ D:DataW Value,w.ownsMap Tryz.prog t elemV b n D∧ViewK κ D f
noncomputable def setK (f:K->Option Value) (v:K) (u:Value):K->Option Value:=fun x=>@ite _ (x=v) (Classical.propDecidable _) (some u) (f x)
noncomputable def neK (z x:K):Bool:=@decide (z≠x) (Classical.propDecidable _)
theorem neK_iff {z x:K}:neK z x=true↔z≠x:=by unfold neK;simp
theorem setK_same (f:K->Option Value) (v:K) (u:Value):setK f v u v=some u:=if_pos rfl
theorem setK_ne {f:K->Option Value} {v x:K} {u:Value} (h:x≠v):setK f v u x=f x:=if_neg h
namespace HMap
variable {w w':World} {b n:Nat} {f:K->Option Value}
theorem made (w:World):HMap κ (w.alloc (.map #[] 0)) w.heap.size 0 (fun _=>none) :=
 ⟨.map [],World.ownsMap_made w _ _ _,fun _ _=>⟨fun _=>rfl,fun _ h=>by cases h⟩⟩
theorem far (h:HMap κ w b n f) {row:Option Nat} (hg:w.grownBy w' row) (hne:some b≠row):HMap κ w' b n f:=by
 obtain⟨D,h,r⟩:=h
 exact⟨D,h.kept hg hne,r⟩
theorem ext (h:HMap κ w b n f) (hx:Ext w w'):HMap κ w' b n f:=h.far (hx.by none) (by simp)
theorem lt (h:HMap κ w b n f):b < w.heap.size:=by
 obtain⟨D,h,_⟩:=h
 exact h.lt
theorem mono (h:HMap κ w b n f) {m:Nat} (hm:n<=m):HMap κ w b m f:=by
 obtain⟨D,h,r⟩:=h
 exact⟨D,h.mono hm,r⟩
theorem setCell (h:HMap κ w b n f) {a:Addr} (ha:b≠a.block) (u:Value):HMap κ (w.setCell a u) b n f:=by
 obtain⟨D,h,r⟩:=h
 exact⟨D,h.setCell ha u,r⟩
theorem congr (h:HMap κ w b n f) {g:K->Option Value} (e:∀ x,f x=g x):HMap κ w b n g:=(funext e:f=g) ▸ h
theorem look (h:HMap κ w b n f) {m e:TypeId} (ht:Tryz.prog.underlying m=some (.map t e)) {z:Value} (hz:(zeroValue e).run Tryz.prog w=.ok z w) {v:K} (hv:κ.ok v) :
 (Instr.lookup m (.map (some b)) (κ.val v) true).run Tryz.prog w=.ok (.tuple #[(f v).getD z,.bool (f v).isSome]) w∧(Instr.lookup m (.map (some b)) (κ.val v) false).run Tryz.prog w=.ok ((f v).getD z) w:=by
 obtain⟨D,h,r⟩:=h
 obtain⟨u,ps,hrun,hu⟩:=h.look_ok κ.keyed ht hz (zd:=.held z) (zp:=[]) rfl (κ.of hv)
 obtain⟨u2,ps2,hrun2,hu2⟩:=h.lookup κ.keyed ht hz (zd:=.held z) (zp:=[]) rfl (κ.of hv)
 have hu:=congrArg Prod.fst (Option.some.inj hu)
 have hu2:=congrArg Prod.fst (Option.some.inj hu2)
 dsimp only at hu hu2
 have key:∀ u,(DataW.held u:DataW Value)=D.atKey (κ.lit v) (.held z)->u=(f v).getD z:=fun u e=>by
  cases hf:f v with
  | none =>
    rw[Maps.atKey_of_not_has ((r v hv).1 hf)] at e
    exact DataW.held.inj e
  | some x =>
    rw[((r v hv).2 x hf).2] at e
    exact DataW.held.inj e
 rw[hrun,hrun2,key u hu,key u2 hu2,ViewK.has r hv]
 exact⟨rfl,rfl⟩
theorem upd (h:HMap κ w b n f) {m e:TypeId} (ht:Tryz.prog.underlying m=some (.map t e)) {v:K} (hv:κ.ok v) (u:Value) (hn:n<=100000000) :
 ∃ w',(Instr.mapUpdate m (.map (some b)) (κ.val v) u).run Tryz.prog w=.ok () w'∧HMap κ w' b (n+1) (setK f v u)∧w.grownBy w' (some b):=by
 obtain⟨D,h,r⟩:=h
 obtain⟨w',hrun,h',hg⟩:=h.update κ.keyed ht (by simp only[maxLen];omega) (κ.of hv) (val:=u) (d:=.held u) (ps:=[]) rfl
 refine⟨w',hrun,⟨_,h',fun x hx=>⟨fun hs=>?_,fun y hs=>?_⟩⟩,hg⟩<;>unfold setK at hs
 ·by_cases e:x=v
  ·rw[if_pos e] at hs;cases hs
  ·rw[if_neg e] at hs
   rw[Maps.has_put_other (fun e2=>e (κ.lit_inj hx hv e2))]
   exact (r x hx).1 hs
 ·by_cases e:x=v
  ·rw[if_pos e] at hs
   cases hs
   subst e
   have hk:=κ.isKey hv
   exact⟨Maps.has_put_same h.isMap hk _,fun z=>Maps.atKey_put_same h.isMap hk _ _⟩
  ·rw[if_neg e] at hs
   have hne:κ.lit x≠κ.lit v:=fun e2=>e (κ.lit_inj hx hv e2)
   obtain⟨h1,h2⟩:=(r x hx).2 y hs
   exact⟨by rw[Maps.has_put_other hne];exact h1,fun z=>by rw[Maps.atKey_put_other hne];exact h2 z⟩
end HMap
def RangeH (κ:KeyT t K) (w:World) (b r n:Nat) (f:K->Option Value) (left:K->Bool) (cnt:Nat):Prop :=
 ∃ (D:DataW Value) (L:Lit->Bool),w.ranges Tryz.prog t elemV b r n D L cnt∧ViewK κ D f∧∀ v,κ.ok v->L (κ.lit v)=left v
namespace RangeH
variable {w w':World} {b r n cnt:Nat} {f:K->Option Value} {left:K->Bool}
theorem grown (h:RangeH κ w b r n f left cnt) {row:Option Nat} (hg:w.grownBy w' row) (hb:some b≠row) (hr:some r≠row):RangeH κ w' b r n f left cnt:=by
 obtain⟨D,L,h,v⟩:=h
 exact⟨D,L,h.kept hg hb hr,v⟩
theorem left_eq (h:RangeH κ w b r n f left cnt):w.rangeLeft b r=cnt:=by
 obtain⟨D,L,h,_⟩:=h
 exact h.left_eq
theorem ne (h:RangeH κ w b r n f left cnt):r≠b:=by
 obtain⟨D,L,h,_⟩:=h
 exact h.ne
theorem lt (h:RangeH κ w b r n f left cnt):r < w.heap.size:=by
 obtain⟨D,L,h,_⟩:=h
 exact h.lt
end RangeH
variable (w:World) {ops:Array Oper} {rest:List Oper} {o:Oper} {a:Act} {Q:Exit->Act->World->Prop}
theorem wp_range_h (hg:o.guard=none) (m:Operand) (mt e:TypeId) (hop:o.op=Op.range mt m) (ht:Tryz.prog.underlying mt=some (.map t e)) (b n:Nat) (f:K->Option Value) (hm:a.eval m=.map (some b)) (h:HMap κ w b n f)
 (hK:∀ w' cnt,RangeH κ w' b w.heap.size n f (fun s=>(f s).isSome) cnt->w.grownBy w' none->w'.heap.size=w.heap.size+1->wpList Tryz.prog ops Q rest (a.put o.dst (.pointer (some ⟨w.heap.size,0,none⟩))) w') :
 wpList Tryz.prog ops Q (o::rest) a w:=by
 obtain⟨D,h,v⟩:=h
 exact wpList_range_own w hg m mt hop t e κ.keyed ht elemV b n D hm h fun w' h1 h2 h3=>hK w' _ ⟨D,_,h1,v,fun s hs=>v.has hs⟩ h2 h3
theorem wp_next_h (hg:o.guard=none) (it:Operand) (hop:o.op=Op.next it false) (b r n:Nat) (f:K->Option Value) (left:K->Bool) (cnt:Nat) (hit:a.eval it=.pointer (some ⟨r,0,none⟩)) (h:RangeH κ w b r n f left cnt)
 (hDone:(∀ s,κ.ok s->left s=false)->wpList Tryz.prog ops Q rest (a.put o.dst (.tuple #[.bool false])) w)
 (hMore:∀ (x:K) (c:Value) (w':World) (cnt':Nat),κ.ok x->left x=true->f x=some c->RangeH κ w' b r n f (fun z=>left z&&neK z x) cnt'->cnt' < cnt->w.grownBy w' (some r)->w'.heap.size=w.heap.size ->
   (Instr.entry (.pointer (some ⟨r,0,none⟩))).run Tryz.prog w'=.ok (.tuple #[κ.val x,c]) w'->wpList Tryz.prog ops Q rest (a.put o.dst (.tuple #[.bool true,κ.val x,c])) w') :
 wpList Tryz.prog ops Q (o::rest) a w:=by
 obtain⟨D,L,h,v,hL⟩:=h
 refine wpList_next_ranges w hg it hop t κ.keyed elemV κ.val id (fun key kl hkey=>by obtain⟨x,e,_⟩:=κ.back hkey;exact⟨x,e⟩) (fun u y _=>⟨u,rfl⟩)
  b r n D L cnt hit h (fun _ hl=>hDone fun s hs=>by rw[<-hL s hs];exact hl _) fun x c kl y w' cnt' hkey hlk hv hat hrg hlt hgr hsz hen=>?_
 obtain⟨x2,e,hox⟩:=κ.back hkey
 obtain rfl:x=x2:=κ.inj e
 have ek:kl=κ.lit x:=Option.some.inj (hkey.symm.trans (κ.of hox))
 subst ek
 have ey:y=(.held c,[]):=(Option.some.inj hv).symm
 subst ey
 refine hMore x c w' cnt' hox (by rw[<-hL x hox];exact hlk) (v.value hox (Maps.has_true_of_atKey hat) hat) ⟨D,_,hrg,v,fun s hs=>?_⟩ hlt hgr hsz hen
 have es:(!Lit.sameKey (κ.lit s) (κ.lit x))=neK s x:=by
  rw[Bool.eq_iff_iff,neK_iff,Bool.not_eq_true',Bool.eq_false_iff]
  exact not_congr ⟨fun h=>κ.lit_inj hs hox (WideAt.sameKey_eq h),fun h=>by rw[h];exact WideAt.sameKey_self (κ.isKey hox)⟩
 show (L (κ.lit s)&&!Lit.sameKey (κ.lit s) (κ.lit x))=_
 rw[hL s hs,es]
end
end
section
open Go.RowKit
open Go.Maps (Keyed has)
section
variable {t:TypeId}
structure PairT (t:TypeId):Prop where
 str:∃ fs,Tryz.prog.underlying t=some (.struct fs)
 two:Tryz.prog.cellsOf t=2
 key:Tryz.prog.keyType t=true
 keyed:Keyed Tryz.prog t
 lits:∀ (m:Nat) (a b:Value),Tryz.prog.keyLits (m+2) t [a,b]=([Tryz.prog.keyLits (m+1) 3 [a],Tryz.prog.keyLits (m+1) 9 [b]].mapM id).map List.flatten
theorem int_underG:Tryz.prog.underlying 3=some (.int .i64):=by kernel_rfl
theorem int_litsG (v:Value) (m:Nat) (ls:List Lit):Tryz.prog.keyLits (m+1) 3 [v]=some ls↔∃ n,v=.int .i64 n∧(Lit.int .i64 n).wf=true∧ls=[.int .i64 n]:=by
 rw[Program.keyLits.eq_def]
 simp only[int_underG]
 constructor
 ·intro h
  cases v<;>simp at h
  rename_i q n
  obtain⟨⟨rfl,h1⟩,rfl⟩:=h
  exact⟨n,rfl,h1,rfl⟩
 ·rintro ⟨n,rfl,h1,rfl⟩
  simp[h1]
theorem str_litsG (v:Value) (m:Nat) (ls:List Lit):Tryz.prog.keyLits (m+1) 9 [v]=some ls↔∃ s:ByteArray,v=.string s∧s.size<=maxLen∧ls=[.string s.data.toList]:=by
 rw[Program.keyLits.eq_def]
 simp only[str_under]
 constructor
 ·intro h
  cases v<;>simp at h
  rename_i s
  exact⟨s,rfl,h.1,h.2.symm⟩
 ·rintro ⟨s,rfl,h1,rfl⟩
  simp[h1]
theorem types_posG:∃ m,Tryz.prog.types.size+1=m+2:=⟨Tryz.prog.types.size - 1,by
 have:0 < Tryz.prog.types.size:=of_decide_eq_true (by kernel_rfl)
 omega⟩
abbrev pairV (k:Int × ByteArray):Value:=.agg #[.int .i64 k.1,.string k.2]
def OkP (k:Int × ByteArray):Prop:=(Lit.int .i64 k.1).wf=true∧k.2.size<=maxLen
theorem two_lits (a b:List Lit):([some a,some b].mapM id).map List.flatten=some (a++(b++[])):=rfl
theorem PairT.here (h:PairT t) {k:Int × ByteArray} (hk:OkP k):∃ l,keyOf Tryz.prog t (pairV k)=some l:=by
 obtain⟨m,hm⟩:=types_posG
 obtain⟨fs,hu⟩:=h.str
 have hf:(pairV k).formed Tryz.prog t=true:=by simp[Value.formed,hu,h.two]
 have hl:Tryz.prog.keyLits (Tryz.prog.types.size+1) t (pairV k).cells.toList=some [.int .i64 k.1,.string k.2.data.toList]:=by
  rw[hm]
  show Tryz.prog.keyLits (m+2) t [.int .i64 k.1,.string k.2]=_
  rw[h.lits,(int_litsG (.int .i64 k.1) m _).2 ⟨_,rfl,hk.1,rfl⟩,(str_litsG (.string k.2) m _).2 ⟨_,rfl,hk.2,rfl⟩,two_lits]
  rfl
 unfold keyOf
 simp only[hu,h.key,hf,hl,Bool.and_self,if_true]
 exact⟨_,rfl⟩
theorem list_two {α:Type}:∀ {l:List α},l.length=2->∃ a b,l=[a,b]
 | [a,b],_=>⟨a,b,rfl⟩
theorem PairT.back (h:PairT t) {x:Value} {l:Lit} (hk:keyOf Tryz.prog t x=some l):∃ k,x=pairV k∧OkP k:=by
 obtain⟨m,hm⟩:=types_posG
 obtain⟨fs,hu⟩:=h.str
 unfold keyOf at hk
 simp only[hu,h.key,Bool.true_and] at hk
 split at hk
 ·rename_i hf
  rw[Option.map_eq_some_iff] at hk
  obtain⟨ls,hl,_⟩:=hk
  cases x<;>simp[Value.formed,hu,h.two] at hf
  rename_i cs
  obtain⟨cs⟩:=cs
  have hf2:cs.length=2:=by simpa using hf
  clear hf
  obtain⟨c1,c2,rfl⟩:=list_two hf2
  rw[hm] at hl
  have hl:Tryz.prog.keyLits (m+2) t [c1,c2]=some ls:=hl
  rw[h.lits] at hl
  cases e1:Tryz.prog.keyLits (m+1) 3 [c1] with
  | none=>rw[e1] at hl;cases hl
  | some l1 =>
    cases e2:Tryz.prog.keyLits (m+1) 9 [c2] with
    | none=>rw[e1,e2] at hl;cases hl
    | some l2 =>
      obtain⟨n1,rfl,w1,_⟩:=(int_litsG _ _ _).1 e1
      obtain⟨s,rfl,w2,_⟩:=(str_litsG _ _ _).1 e2
      exact⟨(n1,s),rfl,w1,w2⟩
 ·cases hk
theorem pair_inj {k k':Int × ByteArray} (h:pairV k=pairV k'):k=k':=by
 obtain⟨a,b⟩:=k
 obtain⟨c,d⟩:=k'
 simp only[pairV,Value.agg.injEq] at h
 simp at h
 obtain⟨rfl,rfl⟩:=h
 rfl
noncomputable def pairK (t:TypeId) (k:Int × ByteArray):Lit:=(keyOf Tryz.prog t (pairV k)).getD (.bool false)
theorem pairK_of (h:PairT t) {k:Int × ByteArray} (hk:OkP k):keyOf Tryz.prog t (pairV k)=some (pairK t k):=by
 obtain⟨l,e⟩:=h.here hk
 rw[pairK,e];rfl
attribute [irreducible] pairK
noncomputable def keyPair (h:PairT t):KeyT t (Int × ByteArray) where
 val:=pairV
 ok:=OkP
 lit:=pairK t
 keyed:=h.keyed
 of:=pairK_of h
 back:=h.back
 inj:=pair_inj
end
end
section
open Go.RowKit
theorem growM_cell (w:World) (g p:Nat) (u:Value):w.grownBy (w.setCell ⟨g,p,none⟩ u) (some g) :=
 ⟨rfl,rfl,rfl,by simp[World.setCell],fun k _ hne=>Below.heap_setCell w ⟨g,p,none⟩ u k (fun e=>hne (by rw[e]))⟩
theorem growM_thenR {a w w':World} {g:Nat} (h:a.grownBy w (some g)) (hg:w.grownBy w' (some g)):a.grownBy w' (some g):=h.andThen hg fun _ e=>.inr e
def QRow (w:World) (B size:Nat) (v:Value) (n:Nat) (xs:List Value):Prop :=
 xs.length=n * size∧∃ g off cap,v=.slice (some ⟨g,off,none⟩) n cap∧B<=g∧g < w.heap.size∧n<=cap∧cap<=maxLen∧(∀ j,j < cap * size->(w.cell? ⟨g,off+j,none⟩).isSome=true∧w.frozen? ⟨g,off+j,none⟩=false) ∧
  ∀ j u,xs[j]?=some u->w.cell? ⟨g,off+j,none⟩=some u
theorem growM_cells (b:Nat):∀ (vs:List Value) (o:Nat) (w:World),w.grownBy (w.setCells b o vs) (some b)
 | [],_,w=>(Ext.refl w).by _
 | v::r,o,w=>by
   rw[World.setCells]
   exact growM_thenR (growM_cell w b o v) (growM_cells b r (o+1) _)
namespace QRow
variable {w w':World} {B size n:Nat} {v:Value} {xs:List Value}
theorem kept (h:QRow w B size v n xs) {row:Option Nat} (hg:w.grownBy w' row) (hne:v.ownBlock≠row):QRow w' B size v n xs:=by
 obtain⟨h1,g,off,cap,rfl,h2,h3,h4,h5,h6,h7⟩:=h
 have hb:w'.heap[g]?=w.heap[g]?:=hg.block g h3 hne
 have hc:∀ j,w'.cell? ⟨g,off+j,none⟩=w.cell? ⟨g,off+j,none⟩:=fun j=>World.cell?_of_block (a:=⟨g,off+j,none⟩) hb
 have hf:∀ j,w'.frozen? ⟨g,off+j,none⟩=w.frozen? ⟨g,off+j,none⟩:=fun j=>World.frozen?_of_block (a:=⟨g,off+j,none⟩) hb
 exact⟨h1,g,off,cap,rfl,h2,Nat.lt_of_lt_of_le h3 hg.size,h4,h5,fun j hj=>by rw[hc,hf];exact h6 j hj,fun j u hu=>by rw[hc];exact h7 j u hu⟩
theorem ext (h:QRow w B size v n xs) (hx:Ext w w'):QRow w' B size v n xs:=h.kept (hx.by none) (by obtain⟨_,g,off,cap,rfl,_⟩:=h;simp[Value.ownBlock])
theorem one (w:World) (t:TypeId) (cs:Array Value) (hB:B<=w.heap.size):QRow (w.alloc (.cells cs t)) B cs.size (.slice (some ⟨w.heap.size,0,none⟩) 1 1) 1 cs.toList:=by
 have b:=Blk.new w t cs
 refine⟨by simp,w.heap.size,0,1,rfl,hB,b.lt,Nat.le_refl _,by unfold maxLen;omega,fun j hj=>?_,fun j u hu=>?_⟩
 ·rw[Nat.zero_add,b.cell,b.free]
  exact⟨by rw[Array.getElem?_eq_getElem (by omega)];rfl,rfl⟩
 ·rw[Nat.zero_add,b.cell,<-Array.getElem?_toList];exact hu
theorem tail (h:QRow w B size v (n+1) xs):∃ g off cap,v=.slice (some ⟨g,off,none⟩) (n+1) cap∧n+1<=cap∧cap<=maxLen ∧
 QRow w B size (.slice (some ⟨g,off+size,none⟩) n (cap - 1)) n (xs.drop size)∧(cap=1->QRow w B size (.slice (some ⟨g,off,none⟩) 0 0) 0 (xs.drop size)):=by
 obtain⟨h1,g,off,cap,rfl,h2,h3,h4,h5,h6,h7⟩:=h
 have e1:(n+1) * size=n * size+size:=by rw[Nat.add_mul,Nat.one_mul]
 refine⟨g,off,cap,rfl,h4,h5,⟨?_,g,off+size,cap - 1,rfl,h2,h3,by omega,by omega,fun j hj=>?_,fun j u hu=>?_⟩,fun hc=>⟨?_,g,off,0,rfl,h2,h3,Nat.le_refl _,by unfold maxLen;omega,fun j hj=>?_,fun j u hu=>?_⟩⟩
 ·rw[List.length_drop,h1,e1];omega
 ·rw[Nat.add_assoc]
  refine h6 _ ?_
  have:cap * size=(cap - 1) * size+size:=by
   have:cap=(cap - 1)+1:=by omega
   rw[this,Nat.add_mul,Nat.one_mul];simp
  omega
 ·rw[Nat.add_assoc]
  rw[List.getElem?_drop] at hu
  exact h7 _ u hu
 ·have:n=0:=by omega
  subst this
  rw[List.length_drop,h1];simp
 ·simp at hj
 ·have:n=0:=by omega
  subst this
  rw[List.getElem?_drop,List.getElem?_eq_none (by rw[h1];simp)] at hu
  cases hu
end QRow
section
variable {P:Program} {w:World} {B:Nat} {v:Value} {n:Nat} {xs:List Value}
theorem run_append_qm (t ty e:TypeId) (i:TypeInfo) (z:Value) (size bytes:Nat) (ht:P.underlying t=some (.slice e)) (hi:P.info? e=some i) (hz:i.zero=some z)
 (hsize:i.size=size) (hby:i.bytes=bytes) (hzs:z.cells.size=size) (hsz:0 < size) (hbb:bytes<=1000) (h:QRow w B size v n xs)
 (ad:Addr) (m c:Nat) (news:List Value) (_hm:0 < m) (hl1:news.length=m * size) (hnews:∀ j u,news[j]?=some u->w.cell? (ad.add j)=some u) (h1:∀ u∈news,u.oneCell'=true) (hn:n+m<=100000000) (hB:B<=w.heap.size) :
 ∃ v' w',(Builtin.append_ #[t,t] ty #[v,.slice (some ad) m c]).run P w=.ok v' w'∧QRow w' B size v' (n+m) (xs++news)∧w.grownBy w' v.ownBlock∧(v'.ownBlock=v.ownBlock∨∃ g,v'.ownBlock=some g∧w.heap.size<=g):=by
 obtain⟨hx,g,off,cap,rfl,k2,k3,k4,k5,k6,k7⟩:=h
 subst hsize
 have hlen:(xs++news).length=(n+m) * i.size:=by rw[List.length_append,hx,hl1,Nat.add_mul]
 by_cases hr:n+m<=cap
 ·have hcap:(n+m) * i.size<=cap * i.size:=Nat.mul_le_mul_right _ hr
  rw[Nat.add_mul] at hcap
  have hin:∀ j,j < news.length->n * i.size+j < cap * i.size:=fun j hj=>by omega
  have hsome:∀ j,j < news.length->(w.cell? ⟨g,off+n * i.size+j,none⟩).isSome=true:=fun j hj=>by rw[Nat.add_assoc];exact (k6 _ (hin j hj)).1
  have hrun:=run_append_room_cells (P:=P) (w:=w) t ty e i ht hi g off n cap ad m c news hl1 hnews h1 hr hsome (fun j hj=>by rw[Nat.add_assoc];exact (k6 _ (hin j hj)).2)
  refine⟨_,_,hrun,⟨hlen,g,off,cap,rfl,k2,Nat.lt_of_lt_of_le k3 (growM_cells g news _ w).size,hr,k5,fun j hj=>?_,fun j u hu=>?_⟩,growM_cells g news _ w,.inl rfl⟩
  ·exact⟨World.isSome_setCells g news _ w _ (k6 j hj).1,by rw[World.frozen?_setCells];exact (k6 j hj).2⟩
  ·by_cases hj:j < xs.length
   ·rw[List.getElem?_append_left hj] at hu
    rw[World.cell?_setCells_out g news _ w _ (fun _ _=>.inl (by show off+j < off+n * i.size;omega))]
    exact k7 j u hu
   ·rw[List.getElem?_append_right (by omega)] at hu
    have hlt:j - xs.length < news.length:=(List.getElem?_eq_some_iff.1 hu).1
    have:=World.cell?_setCells_in g news (off+n * i.size) w hsome (j - xs.length) hlt
    rw[show off+n * i.size+(j - xs.length)=off+j by omega] at this
    rw[this,<-List.getElem?_eq_getElem hlt]
    exact hu
 ·obtain⟨v',w',hrun,r1,r2⟩:=run_append_arg_grows (P:=P) (w:=w) t ty e i z i.size bytes ht hi hz rfl hby hzs hsz ⟨g,off,none⟩ n cap xs hx (fun j u hu=>by rw[Addr.add_lit];exact k7 j u hu) ad m c news hl1 hnews (by omega)
   (by unfold maxLen;omega) (by
     have:(n+m) * bytes<=100000000 * 1000:=Nat.mul_le_mul hn hbb
     omega)
  refine⟨v',w',hrun,?_,⟨r2.os,r2.tape,r2.output,r2.size,fun k hk _=>r2.block k hk (by simp)⟩,?_⟩
  ·rcases r1.2 with ⟨_,h0⟩|⟨g2,cap2,cur,rfl,q1,q2,q3,q4,q5,q6⟩
   ·omega
   ·have hlt:g2 < w'.heap.size:=by
     rcases Nat.lt_or_ge g2 w'.heap.size with hlt|hge
     ·exact hlt
     ·rw[Array.getElem?_eq_none hge] at q2;cases q2
    have b:Blk w' g2 e cur:=q2
    refine⟨hlen,g2,0,cap2,rfl,Nat.le_trans hB q1,hlt,q3,q4,fun j hj=>?_,fun j u hu=>?_⟩
    ·rw[Nat.zero_add,b.cell,b.free]
     exact⟨by rw[Array.getElem?_eq_getElem (by omega)];rfl,rfl⟩
    ·rw[Nat.zero_add,b.cell]
     rw[<-q6,List.getElem?_take] at hu
     split at hu
     ·rw[<-Array.getElem?_toList];exact hu
     ·cases hu
  ·rcases r1.2 with ⟨_,h0⟩|⟨g2,cap2,cur,rfl,q1,_⟩
   ·omega
   ·exact .inr ⟨g2,rfl,q1⟩
end
end
end Go.Proofs.YtmpccllnpcbgcaaGreatDoor
