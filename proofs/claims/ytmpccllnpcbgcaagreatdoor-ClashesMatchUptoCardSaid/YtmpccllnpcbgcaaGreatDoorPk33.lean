/- Contract of outref2.StepError. (Printed by gen/pkf.py.) -/
import Derived.Test.YtmpccllnpcbgcaaGreatDoorPk31
namespace Go.Proofs.YtmpccllnpcbgcaaGreatDoor
open Go.RowKit
theorem pre_cut:∀ {d a r:Str},(47:UInt8) ∉ d->(47:UInt8) ∉ a->(d++[47]).isPrefixOf (a++47::r)=(a==d)
 | [],[],r,_,_=>by simp[List.isPrefixOf]
 | [],x::a,r,_,ha=>by
   have hx:¬ (47:UInt8)=x:=fun e=>ha (by simp[e])
   simp[List.isPrefixOf,hx]
 | y::d,[],r,hd,_=>by
   have hy:¬ y=(47:UInt8):=fun e=>hd (by simp[e])
   simp[List.isPrefixOf,hy]
 | y::d,x::a,r,hd,ha=>by
   have ih:=pre_cut (r:=r) (fun h=>hd (List.mem_cons_of_mem _ h)) (fun h=>ha (List.mem_cons_of_mem _ h))
   simp only[List.cons_append,List.isPrefixOf]
   rw[ih,Bool.eq_iff_iff]
   simp only[Bool.and_eq_true,beq_iff_eq,List.cons.injEq]
   exact⟨fun h=>⟨h.1.symm,h.2⟩,fun h=>⟨h.1.symm,h.2⟩⟩
theorem pre_none {d s:Str} (h:(47:UInt8) ∉ s):(d++[47]).isPrefixOf s=false:=by
 rw[Bool.eq_false_iff]
 intro hp
 rw[List.isPrefixOf_iff_prefix] at hp
 exact h (hp.subset (by simp))
theorem own_top (s:Str):ownL s=((cutC 47 s).1==wStage||(cutC 47 s).1==wOutfit):=by
 unfold ownL belowL
 rcases first_cut 47 s with h|⟨a,r,ha,rfl⟩
 ·rw[cutC_none 47 s h,pre_none h,pre_none h,Bool.or_false,Bool.or_false]
 ·rw[cutC_app 47 a r ha,pre_cut (by decide) ha,pre_cut (by decide) ha]
  have h1:(a++47::r==wStage)=false:=by
   rw[beq_eq_false_iff_ne]
   intro e
   have:(47:UInt8)∈wStage:=by rw[<-e];simp
   revert this;decide
  have h2:(a++47::r==wOutfit)=false:=by
   rw[beq_eq_false_iff_ne]
   intro e
   have:(47:UInt8)∈wOutfit:=by rw[<-e];simp
   revert this;decide
  rw[h1,h2,Bool.false_or,Bool.false_or]
set_option maxHeartbeats 8000000 in
set_option maxRecDepth 100000 in
theorem StepError_any (s:Sto) (w:World) (hg:Good w) (hn:s.name.size<=2097152) (hv:s.val.size<=2097152) :
 Calls Tryz.prog 197 #[stoV s] w fun e w'=>e=.returned (.int .i64 (stoErr s))∧Ext w w':=by
 obtain⟨k,n,v⟩:=s
 dsimp only[stoV] at *
 have CI:=Hy (fun W=>In_any k 1 6 W)
 have CP:=Hy (fun W (h:Ext w W)=>PathOf_any n W (hg.ext h) hn)
 have CN:=Hy (fun W=>NameOf_any n W hn)
 have CC:=Hy (fun W (h:Ext w W)=>cut_ex 47 n W (hg.ext h) hn)
 have CV:=Hy (fun W=>ValueOf_any v W hv)
 have CW:=Hy (fun b W=>When_any b 2 W)
 have HOT:=Hy (own_top (bs n))
 have HE:=Hy (stoErr_bools k n v)
 have HZ:=Hy (show decide (v.size≠0)=false->v.size=0 from fun h=>by simpa using h)
 have HY:=Hy (show decide (v.size≠0)=true->0 < v.size from fun h=>Nat.pos_of_ne_zero (by simpa using h))
 clear hg hn hv
 generalize stoErr ⟨k,n,v⟩=E at *
 generalize nameL (bs n)=NQ at *
 generalize pathL (bs n)=PQ at *
 generalize ownL (bs n)=O at *
 generalize valueL (bs v)=V at *
 generalize decide (v.size≠0)=Z at *
 have b0:=Blk.new w 108 #[.int .i64 k,.string n,.string v]
 have hx1:Ext w (w.alloc (.cells #[.int .i64 k,.string n,.string v] 108)):=(Ext.refl w).alloc _
 generalize hW:w.alloc (.cells #[.int .i64 k,.string n,.string v] 108)=W0 at *
 have HW:=Hy hW
 clear hW
 have e0:=b0.cell;have l0:=b0.lt
 by_cases h1:k=1
 ·subst h1
  simp only[show decide ((1:Int)<=1∧(1:Int)<=6)=true from rfl] at CI
  cases PQ
  ·go_enter Tryz.func197,Tryz.ntmps197
   go_wp2_with fail
   rw[HW.out]
   refine (CI.out _).mono ?_
   rintro e w' ⟨rfl,rfl⟩
   go_wp2_with fail
   refine (CP.out _ hx1).mono ?_
   rintro e w2 ⟨rfl,hx2⟩
   have hx3:=hx1.trans hx2
   have b2:=b0.ext hx2
   have e2:=b2.cell;have l2:=b2.lt
   go_wp2
   go_ret
   exact⟨ret_int (by rw[HE.out];rfl),hx3⟩
  ·go_enter Tryz.func197,Tryz.ntmps197
   go_wp2_with fail
   rw[HW.out]
   refine (CI.out _).mono ?_
   rintro e w' ⟨rfl,rfl⟩
   go_wp2_with fail
   refine (CP.out _ hx1).mono ?_
   rintro e w2 ⟨rfl,hx2⟩
   have hx3:=hx1.trans hx2
   have b2:=b0.ext hx2
   have e2:=b2.cell;have l2:=b2.lt
   go_wp2_with fail
   refine (CC.out _ hx3).mono ?_
   rintro e w4 ⟨a,b,fl,rfl,hc,_,_,hx4⟩
   have hx5:=hx3.trans hx4
   have b4:=b2.ext hx4
   have e4:=b4.cell;have l4:=b4.lt
   have HA:=Hy (show O=(bs a==wStage||bs a==wOutfit) from by rw[HOT.out,hc])
   clear hc
   have a1:(a.toList==[115,116,97,103,101])=(bs a==wStage):=by rw[ByteArray.toList_eq]
   have a2:(a.toList==[111,117,116,102,105,116])=(bs a==wOutfit):=by rw[ByteArray.toList_eq]
   generalize (bs a==wStage)=O1 at *
   generalize (bs a==wOutfit)=O2 at *
   cases V
   ·go_wp2_with fail
    refine (CV.out _).mono ?_
    rintro e w' ⟨rfl,rfl⟩
    go_wp2_with fail
    refine (CW.out _ _).mono ?_
    rintro e w' ⟨rfl,rfl⟩
    go_wp2
    go_ret
    exact⟨ret_int (by rw[HE.out];first|rfl|(cases Z<;>rfl)),hx5⟩
   ·go_wp2_with fail
    refine (CV.out _).mono ?_
    rintro e w' ⟨rfl,rfl⟩
    go_wp2_with fail
    refine (CW.out _ _).mono ?_
    rintro e w' ⟨rfl,rfl⟩
    go_wp2
    go_ret
    exact⟨ret_int (by rw[HE.out];first|rfl|(cases Z<;>rfl)),hx5⟩
 ·by_cases h2:k=2
  ·subst h2
   simp only[show decide ((1:Int)<=2∧(2:Int)<=6)=true from rfl] at CI
   cases PQ
   ·go_enter Tryz.func197,Tryz.ntmps197
    go_wp2_with fail
    rw[HW.out]
    refine (CI.out _).mono ?_
    rintro e w' ⟨rfl,rfl⟩
    go_wp2_with fail
    refine (CP.out _ hx1).mono ?_
    rintro e w2 ⟨rfl,hx2⟩
    have hx3:=hx1.trans hx2
    have b2:=b0.ext hx2
    have e2:=b2.cell;have l2:=b2.lt
    go_wp2
    go_ret
    exact⟨ret_int (by rw[HE.out];rfl),hx3⟩
   ·go_enter Tryz.func197,Tryz.ntmps197
    go_wp2_with fail
    rw[HW.out]
    refine (CI.out _).mono ?_
    rintro e w' ⟨rfl,rfl⟩
    go_wp2_with fail
    refine (CP.out _ hx1).mono ?_
    rintro e w2 ⟨rfl,hx2⟩
    have hx3:=hx1.trans hx2
    have b2:=b0.ext hx2
    have e2:=b2.cell;have l2:=b2.lt
    go_wp2_with fail
    refine (CC.out _ hx3).mono ?_
    rintro e w4 ⟨a,b,fl,rfl,hc,_,_,hx4⟩
    have hx5:=hx3.trans hx4
    have b4:=b2.ext hx4
    have e4:=b4.cell;have l4:=b4.lt
    have HA:=Hy (show O=(bs a==wStage||bs a==wOutfit) from by rw[HOT.out,hc])
    clear hc
    have a1:(a.toList==[115,116,97,103,101])=(bs a==wStage):=by rw[ByteArray.toList_eq]
    have a2:(a.toList==[111,117,116,102,105,116])=(bs a==wOutfit):=by rw[ByteArray.toList_eq]
    generalize (bs a==wStage)=O1 at *
    generalize (bs a==wOutfit)=O2 at *
    cases V
    ·go_wp2_with fail
     refine (CV.out _).mono ?_
     rintro e w' ⟨rfl,rfl⟩
     go_wp2_with fail
     refine (CW.out _ _).mono ?_
     rintro e w' ⟨rfl,rfl⟩
     go_wp2
     go_ret
     exact⟨ret_int (by rw[HE.out];first|rfl|(cases Z<;>rfl)),hx5⟩
    ·cases Z
     ·have hz:=emp_of_size (HZ.out rfl);have hz2:=emp_bool (HZ.out rfl)
      go_wp2_with fail
      refine (CV.out _).mono ?_
      rintro e w' ⟨rfl,rfl⟩
      go_wp2_with fail
      refine (CW.out _ _).mono ?_
      rintro e w' ⟨rfl,rfl⟩
      go_wp2
      go_ret
      exact⟨ret_int (by rw[HE.out];first|rfl|(cases Z<;>rfl)),hx5⟩
     ·have hz:=nemp_of_size (HY.out rfl);have hz2:=nemp_bool (HY.out rfl)
      go_wp2_with fail
      refine (CV.out _).mono ?_
      rintro e w' ⟨rfl,rfl⟩
      go_wp2_with fail
      refine (CW.out _ _).mono ?_
      rintro e w' ⟨rfl,rfl⟩
      go_wp2
      go_ret
      exact⟨ret_int (by rw[HE.out];first|rfl|(cases Z<;>rfl)),hx5⟩
  ·by_cases h3:k=3
   ·subst h3
    simp only[show decide ((1:Int)<=3∧(3:Int)<=6)=true from rfl] at CI
    cases PQ
    ·go_enter Tryz.func197,Tryz.ntmps197
     go_wp2_with fail
     rw[HW.out]
     refine (CI.out _).mono ?_
     rintro e w' ⟨rfl,rfl⟩
     go_wp2_with fail
     refine (CP.out _ hx1).mono ?_
     rintro e w2 ⟨rfl,hx2⟩
     have hx3:=hx1.trans hx2
     have b2:=b0.ext hx2
     have e2:=b2.cell;have l2:=b2.lt
     go_wp2
     go_ret
     exact⟨ret_int (by rw[HE.out];rfl),hx3⟩
    ·go_enter Tryz.func197,Tryz.ntmps197
     go_wp2_with fail
     rw[HW.out]
     refine (CI.out _).mono ?_
     rintro e w' ⟨rfl,rfl⟩
     go_wp2_with fail
     refine (CP.out _ hx1).mono ?_
     rintro e w2 ⟨rfl,hx2⟩
     have hx3:=hx1.trans hx2
     have b2:=b0.ext hx2
     have e2:=b2.cell;have l2:=b2.lt
     go_wp2_with fail
     refine (CC.out _ hx3).mono ?_
     rintro e w4 ⟨a,b,fl,rfl,hc,_,_,hx4⟩
     have hx5:=hx3.trans hx4
     have b4:=b2.ext hx4
     have e4:=b4.cell;have l4:=b4.lt
     have HA:=Hy (show O=(bs a==wStage||bs a==wOutfit) from by rw[HOT.out,hc])
     clear hc
     have a1:(a.toList==[115,116,97,103,101])=(bs a==wStage):=by rw[ByteArray.toList_eq]
     have a2:(a.toList==[111,117,116,102,105,116])=(bs a==wOutfit):=by rw[ByteArray.toList_eq]
     generalize (bs a==wStage)=O1 at *
     generalize (bs a==wOutfit)=O2 at *
     cases O1
     ·cases O2
      ·have HO:=Hy HA.out
       obtain rfl:O=false:=HA.out
       cases V
       ·go_wp2_with fail
        refine (CV.out _).mono ?_
        rintro e w' ⟨rfl,rfl⟩
        go_wp2_with fail
        refine (CW.out _ _).mono ?_
        rintro e w' ⟨rfl,rfl⟩
        go_wp2
        go_ret
        exact⟨ret_int (by rw[HE.out];first|rfl|(cases Z<;>rfl)),hx5⟩
       ·go_wp2_with fail
        refine (CV.out _).mono ?_
        rintro e w' ⟨rfl,rfl⟩
        go_wp2_with fail
        refine (CW.out _ _).mono ?_
        rintro e w' ⟨rfl,rfl⟩
        go_wp2
        go_ret
        exact⟨ret_int (by rw[HE.out];first|rfl|(cases Z<;>rfl)),hx5⟩
      ·obtain rfl:O=true:=HA.out
       go_wp2
       go_ret
       exact⟨ret_int (by rw[HE.out];first|rfl|(cases Z<;>rfl)),hx5⟩
     ·obtain rfl:O=true:=HA.out.trans (by rfl)
      go_wp2
      go_ret
      exact⟨ret_int (by rw[HE.out];first|rfl|(cases Z<;>rfl)),hx5⟩
   ·by_cases h4:k=4
    ·subst h4
     simp only[show decide ((1:Int)<=4∧(4:Int)<=6)=true from rfl] at CI
     cases PQ
     ·go_enter Tryz.func197,Tryz.ntmps197
      go_wp2_with fail
      rw[HW.out]
      refine (CI.out _).mono ?_
      rintro e w' ⟨rfl,rfl⟩
      go_wp2_with fail
      refine (CP.out _ hx1).mono ?_
      rintro e w2 ⟨rfl,hx2⟩
      have hx3:=hx1.trans hx2
      have b2:=b0.ext hx2
      have e2:=b2.cell;have l2:=b2.lt
      go_wp2
      go_ret
      exact⟨ret_int (by rw[HE.out];rfl),hx3⟩
     ·go_enter Tryz.func197,Tryz.ntmps197
      go_wp2_with fail
      rw[HW.out]
      refine (CI.out _).mono ?_
      rintro e w' ⟨rfl,rfl⟩
      go_wp2_with fail
      refine (CP.out _ hx1).mono ?_
      rintro e w2 ⟨rfl,hx2⟩
      have hx3:=hx1.trans hx2
      have b2:=b0.ext hx2
      have e2:=b2.cell;have l2:=b2.lt
      go_wp2_with fail
      refine (CC.out _ hx3).mono ?_
      rintro e w4 ⟨a,b,fl,rfl,hc,_,_,hx4⟩
      have hx5:=hx3.trans hx4
      have b4:=b2.ext hx4
      have e4:=b4.cell;have l4:=b4.lt
      have HA:=Hy (show O=(bs a==wStage||bs a==wOutfit) from by rw[HOT.out,hc])
      clear hc
      have a1:(a.toList==[115,116,97,103,101])=(bs a==wStage):=by rw[ByteArray.toList_eq]
      have a2:(a.toList==[111,117,116,102,105,116])=(bs a==wOutfit):=by rw[ByteArray.toList_eq]
      generalize (bs a==wStage)=O1 at *
      generalize (bs a==wOutfit)=O2 at *
      cases O1
      ·cases O2
       ·have HO:=Hy HA.out
        obtain rfl:O=false:=HA.out
        cases V
        ·go_wp2_with fail
         refine (CV.out _).mono ?_
         rintro e w' ⟨rfl,rfl⟩
         go_wp2_with fail
         refine (CW.out _ _).mono ?_
         rintro e w' ⟨rfl,rfl⟩
         go_wp2
         go_ret
         exact⟨ret_int (by rw[HE.out];first|rfl|(cases Z<;>rfl)),hx5⟩
        ·cases Z
         ·have hz:=emp_of_size (HZ.out rfl);have hz2:=emp_bool (HZ.out rfl)
          go_wp2_with fail
          refine (CV.out _).mono ?_
          rintro e w' ⟨rfl,rfl⟩
          go_wp2_with fail
          refine (CW.out _ _).mono ?_
          rintro e w' ⟨rfl,rfl⟩
          go_wp2
          go_ret
          exact⟨ret_int (by rw[HE.out];first|rfl|(cases Z<;>rfl)),hx5⟩
         ·have hz:=nemp_of_size (HY.out rfl);have hz2:=nemp_bool (HY.out rfl)
          go_wp2_with fail
          refine (CV.out _).mono ?_
          rintro e w' ⟨rfl,rfl⟩
          go_wp2_with fail
          refine (CW.out _ _).mono ?_
          rintro e w' ⟨rfl,rfl⟩
          go_wp2
          go_ret
          exact⟨ret_int (by rw[HE.out];first|rfl|(cases Z<;>rfl)),hx5⟩
       ·obtain rfl:O=true:=HA.out
        go_wp2
        go_ret
        exact⟨ret_int (by rw[HE.out];first|rfl|(cases Z<;>rfl)),hx5⟩
      ·obtain rfl:O=true:=HA.out.trans (by rfl)
       go_wp2
       go_ret
       exact⟨ret_int (by rw[HE.out];first|rfl|(cases Z<;>rfl)),hx5⟩
    ·by_cases h5:k=5
     ·subst h5
      simp only[show decide ((1:Int)<=5∧(5:Int)<=6)=true from rfl] at CI
      cases NQ
      ·go_enter Tryz.func197,Tryz.ntmps197
       go_wp2_with fail
       rw[HW.out]
       refine (CI.out _).mono ?_
       rintro e w' ⟨rfl,rfl⟩
       go_wp2_with fail
       refine (CN.out _).mono ?_
       rintro e w2 ⟨rfl,hx2⟩
       have hx3:=hx1.trans hx2
       have b2:=b0.ext hx2
       have e2:=b2.cell;have l2:=b2.lt
       go_wp2
       go_ret
       exact⟨ret_int (by rw[HE.out];rfl),hx3⟩
      ·go_enter Tryz.func197,Tryz.ntmps197
       go_wp2_with fail
       rw[HW.out]
       refine (CI.out _).mono ?_
       rintro e w' ⟨rfl,rfl⟩
       go_wp2_with fail
       refine (CN.out _).mono ?_
       rintro e w2 ⟨rfl,hx2⟩
       have hx3:=hx1.trans hx2
       have b2:=b0.ext hx2
       have e2:=b2.cell;have l2:=b2.lt
       go_wp2_with fail
       refine (CC.out _ hx3).mono ?_
       rintro e w4 ⟨a,b,fl,rfl,hc,_,_,hx4⟩
       have hx5:=hx3.trans hx4
       have b4:=b2.ext hx4
       have e4:=b4.cell;have l4:=b4.lt
       have HA:=Hy (show O=(bs a==wStage||bs a==wOutfit) from by rw[HOT.out,hc])
       clear hc
       have a1:(a.toList==[115,116,97,103,101])=(bs a==wStage):=by rw[ByteArray.toList_eq]
       have a2:(a.toList==[111,117,116,102,105,116])=(bs a==wOutfit):=by rw[ByteArray.toList_eq]
       generalize (bs a==wStage)=O1 at *
       generalize (bs a==wOutfit)=O2 at *
       cases V
       ·go_wp2_with fail
        refine (CV.out _).mono ?_
        rintro e w' ⟨rfl,rfl⟩
        go_wp2_with fail
        refine (CW.out _ _).mono ?_
        rintro e w' ⟨rfl,rfl⟩
        go_wp2
        go_ret
        exact⟨ret_int (by rw[HE.out];first|rfl|(cases Z<;>rfl)),hx5⟩
       ·cases Z
        ·have hz:=emp_of_size (HZ.out rfl);have hz2:=emp_bool (HZ.out rfl)
         go_wp2_with fail
         refine (CV.out _).mono ?_
         rintro e w' ⟨rfl,rfl⟩
         go_wp2_with fail
         refine (CW.out _ _).mono ?_
         rintro e w' ⟨rfl,rfl⟩
         go_wp2
         go_ret
         exact⟨ret_int (by rw[HE.out];first|rfl|(cases Z<;>rfl)),hx5⟩
        ·have hz:=nemp_of_size (HY.out rfl);have hz2:=nemp_bool (HY.out rfl)
         go_wp2_with fail
         refine (CV.out _).mono ?_
         rintro e w' ⟨rfl,rfl⟩
         go_wp2_with fail
         refine (CW.out _ _).mono ?_
         rintro e w' ⟨rfl,rfl⟩
         go_wp2
         go_ret
         exact⟨ret_int (by rw[HE.out];first|rfl|(cases Z<;>rfl)),hx5⟩
     ·by_cases h6:k=6
      ·subst h6
       simp only[show decide ((1:Int)<=6∧(6:Int)<=6)=true from rfl] at CI
       cases NQ
       ·go_enter Tryz.func197,Tryz.ntmps197
        go_wp2_with fail
        rw[HW.out]
        refine (CI.out _).mono ?_
        rintro e w' ⟨rfl,rfl⟩
        go_wp2_with fail
        refine (CN.out _).mono ?_
        rintro e w2 ⟨rfl,hx2⟩
        have hx3:=hx1.trans hx2
        have b2:=b0.ext hx2
        have e2:=b2.cell;have l2:=b2.lt
        go_wp2
        go_ret
        exact⟨ret_int (by rw[HE.out];rfl),hx3⟩
       ·go_enter Tryz.func197,Tryz.ntmps197
        go_wp2_with fail
        rw[HW.out]
        refine (CI.out _).mono ?_
        rintro e w' ⟨rfl,rfl⟩
        go_wp2_with fail
        refine (CN.out _).mono ?_
        rintro e w2 ⟨rfl,hx2⟩
        have hx3:=hx1.trans hx2
        have b2:=b0.ext hx2
        have e2:=b2.cell;have l2:=b2.lt
        go_wp2_with fail
        refine (CC.out _ hx3).mono ?_
        rintro e w4 ⟨a,b,fl,rfl,hc,_,_,hx4⟩
        have hx5:=hx3.trans hx4
        have b4:=b2.ext hx4
        have e4:=b4.cell;have l4:=b4.lt
        have HA:=Hy (show O=(bs a==wStage||bs a==wOutfit) from by rw[HOT.out,hc])
        clear hc
        have a1:(a.toList==[115,116,97,103,101])=(bs a==wStage):=by rw[ByteArray.toList_eq]
        have a2:(a.toList==[111,117,116,102,105,116])=(bs a==wOutfit):=by rw[ByteArray.toList_eq]
        generalize (bs a==wStage)=O1 at *
        generalize (bs a==wOutfit)=O2 at *
        cases V
        ·go_wp2_with fail
         refine (CV.out _).mono ?_
         rintro e w' ⟨rfl,rfl⟩
         go_wp2_with fail
         refine (CW.out _ _).mono ?_
         rintro e w' ⟨rfl,rfl⟩
         go_wp2
         go_ret
         exact⟨ret_int (by rw[HE.out];first|rfl|(cases Z<;>rfl)),hx5⟩
        ·cases Z
         ·have hz:=emp_of_size (HZ.out rfl);have hz2:=emp_bool (HZ.out rfl)
          go_wp2_with fail
          refine (CV.out _).mono ?_
          rintro e w' ⟨rfl,rfl⟩
          go_wp2_with fail
          refine (CW.out _ _).mono ?_
          rintro e w' ⟨rfl,rfl⟩
          go_wp2
          go_ret
          exact⟨ret_int (by rw[HE.out];first|rfl|(cases Z<;>rfl)),hx5⟩
         ·have hz:=nemp_of_size (HY.out rfl);have hz2:=nemp_bool (HY.out rfl)
          go_wp2_with fail
          refine (CV.out _).mono ?_
          rintro e w' ⟨rfl,rfl⟩
          go_wp2_with fail
          refine (CW.out _ _).mono ?_
          rintro e w' ⟨rfl,rfl⟩
          go_wp2
          go_ret
          exact⟨ret_int (by rw[HE.out];first|rfl|(cases Z<;>rfl)),hx5⟩
      ·have HE3:=Hy (show E=1 from by rw[HE.out,if_pos (by simp;omega)])
       have hci:decide ((1:Int)<=k∧k<=6)=false:=by rw[decide_eq_false_iff_not];omega
       rw[hci] at CI
       clear hci h1 h2 h3 h4 h5 h6
       go_enter Tryz.func197,Tryz.ntmps197
       go_wp2_with fail
       rw[HW.out]
       refine (CI.out _).mono ?_
       rintro e w' ⟨rfl,rfl⟩
       go_wp2
       go_ret
       exact⟨ret_int HE3.out.symm,hx1⟩
end Go.Proofs.YtmpccllnpcbgcaaGreatDoor
