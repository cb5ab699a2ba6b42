/- Contract of pack.StepFault. (Printed by gen/pkd.py.) -/
import Derived.Test.YtmpccllnpcbgcaaGreatDoorPk24
namespace Go.Proofs.YtmpccllnpcbgcaaGreatDoor
open Go.RowKit
theorem stoErr_bools (k:Int) (n v:ByteArray):stoErr ⟨k,n,v⟩=if (decide (k < 1)||decide (6 < k))=true then 1 else if (if 5<=k then nameL (bs n) else pathL (bs n))=false then 5 else if ((decide (k=3)||decide (k=4))&&ownL (bs n))=true then 17 else if (!valueL (bs v)||(decide (v.size≠0)&&!decide (k=1)&&!decide (k=3)))=true then 2 else 0:=by
 unfold stoErr
 by_cases h:k < 1∨6 < k
 ·rw[if_pos h,if_pos (show (decide (k < 1)||decide (6 < k))=true by simpa using h)]
 ·rw[if_neg h,if_neg (show ¬ (decide (k < 1)||decide (6 < k))=true by simpa using h)]
set_option maxHeartbeats 4000000 in
set_option maxRecDepth 100000 in
theorem StepFault_any (s:Sto) (w:World) (hg:Good w) (hn:s.name.size<=2097152) (hv:s.val.size<=2097152) :
 Calls Tryz.prog 207 #[stoV s] w fun e w'=>e=.returned (.int .i64 (stoErr s))∧Ext w w':=by
 obtain⟨k,n,v⟩:=s
 dsimp only[stoV] at *
 have CP:=Hy (fun W (h:Ext w W)=>IsPath_any n W (hg.ext h) hn)
 have CN:=Hy (fun W=>IsName_any n W hn)
 have CO:=Hy (fun W=>Own_any n W)
 have CV:=Hy (fun W=>IsValue_any v W hv)
 have HE:=Hy (stoErr_bools k n v)
 have HZ:=Hy (show decide (v.size≠0)=false->v.size=0 from fun h=>by simpa using h)
 have HY:=Hy (show decide (v.size≠0)=true->0 < v.size from fun h=>Nat.pos_of_ne_zero (by simpa using h))
 clear hg hn hv
 generalize stoErr ⟨k,n,v⟩=E at *
 generalize nameL (bs n)=NQ at *
 generalize pathL (bs n)=PQ at *
 generalize ownL (bs n)=O at *
 generalize valueL (bs v)=V at *
 generalize decide (v.size≠0)=Z at *
 have b0:=Blk.new w 108 #[.int .i64 k,.string n,.string v]
 have hx0:Ext w (w.alloc (.cells #[.int .i64 k,.string n,.string v] 108)):=(Ext.refl w).alloc _
 generalize hW:w.alloc (.cells #[.int .i64 k,.string n,.string v] 108)=W0 at *
 have HW:=Hy hW
 clear hW
 have e0:=b0.cell;have l0:=b0.lt
 have hx1:=Ext.refl W0
 by_cases h1:k=1
 ·subst h1
  cases PQ
  ·go_enter Tryz.func207,Tryz.ntmps207
   go_wp2_with fail
   rw[HW.out]
   refine (CP.out _ hx0).mono ?_
   rintro e w1 ⟨rfl,hx1⟩
   have e1:=(b0.ext hx1).cell;have l1:=(b0.ext hx1).lt
   go_wp2
   go_ret
   exact⟨ret_int (by rw[HE.out];rfl),hx0.trans hx1⟩
  ·cases V
   ·go_enter Tryz.func207,Tryz.ntmps207
    go_wp2_with fail
    rw[HW.out]
    refine (CP.out _ hx0).mono ?_
    rintro e w1 ⟨rfl,hx1⟩
    have e1:=(b0.ext hx1).cell;have l1:=(b0.ext hx1).lt
    go_wp2_with fail
    refine (CV.out _).mono ?_
    rintro e w' ⟨rfl,rfl⟩
    go_wp2
    go_ret
    exact⟨ret_int (by rw[HE.out];rfl),hx0.trans hx1⟩
   ·cases Z
    ·have hz:=emp_of_size (HZ.out rfl);have hz2:=emp_bool (HZ.out rfl)
     go_enter Tryz.func207,Tryz.ntmps207
     go_wp2_with fail
     rw[HW.out]
     refine (CP.out _ hx0).mono ?_
     rintro e w1 ⟨rfl,hx1⟩
     have e1:=(b0.ext hx1).cell;have l1:=(b0.ext hx1).lt
     go_wp2_with fail
     refine (CV.out _).mono ?_
     rintro e w' ⟨rfl,rfl⟩
     go_wp2
     go_ret
     exact⟨ret_int (by rw[HE.out];rfl),hx0.trans hx1⟩
    ·have hz:=nemp_of_size (HY.out rfl);have hz2:=nemp_bool (HY.out rfl)
     go_enter Tryz.func207,Tryz.ntmps207
     go_wp2_with fail
     rw[HW.out]
     refine (CP.out _ hx0).mono ?_
     rintro e w1 ⟨rfl,hx1⟩
     have e1:=(b0.ext hx1).cell;have l1:=(b0.ext hx1).lt
     go_wp2_with fail
     refine (CV.out _).mono ?_
     rintro e w' ⟨rfl,rfl⟩
     go_wp2
     go_ret
     exact⟨ret_int (by rw[HE.out];rfl),hx0.trans hx1⟩
 ·by_cases h2:k=2
  ·subst h2
   cases PQ
   ·go_enter Tryz.func207,Tryz.ntmps207
    go_wp2_with fail
    rw[HW.out]
    refine (CP.out _ hx0).mono ?_
    rintro e w1 ⟨rfl,hx1⟩
    have e1:=(b0.ext hx1).cell;have l1:=(b0.ext hx1).lt
    go_wp2
    go_ret
    exact⟨ret_int (by rw[HE.out];rfl),hx0.trans hx1⟩
   ·cases V
    ·go_enter Tryz.func207,Tryz.ntmps207
     go_wp2_with fail
     rw[HW.out]
     refine (CP.out _ hx0).mono ?_
     rintro e w1 ⟨rfl,hx1⟩
     have e1:=(b0.ext hx1).cell;have l1:=(b0.ext hx1).lt
     go_wp2_with fail
     refine (CV.out _).mono ?_
     rintro e w' ⟨rfl,rfl⟩
     go_wp2
     go_ret
     exact⟨ret_int (by rw[HE.out];rfl),hx0.trans hx1⟩
    ·cases Z
     ·have hz:=emp_of_size (HZ.out rfl);have hz2:=emp_bool (HZ.out rfl)
      go_enter Tryz.func207,Tryz.ntmps207
      go_wp2_with fail
      rw[HW.out]
      refine (CP.out _ hx0).mono ?_
      rintro e w1 ⟨rfl,hx1⟩
      have e1:=(b0.ext hx1).cell;have l1:=(b0.ext hx1).lt
      go_wp2_with fail
      refine (CV.out _).mono ?_
      rintro e w' ⟨rfl,rfl⟩
      go_wp2
      go_ret
      exact⟨ret_int (by rw[HE.out];rfl),hx0.trans hx1⟩
     ·have hz:=nemp_of_size (HY.out rfl);have hz2:=nemp_bool (HY.out rfl)
      go_enter Tryz.func207,Tryz.ntmps207
      go_wp2_with fail
      rw[HW.out]
      refine (CP.out _ hx0).mono ?_
      rintro e w1 ⟨rfl,hx1⟩
      have e1:=(b0.ext hx1).cell;have l1:=(b0.ext hx1).lt
      go_wp2_with fail
      refine (CV.out _).mono ?_
      rintro e w' ⟨rfl,rfl⟩
      go_wp2
      go_ret
      exact⟨ret_int (by rw[HE.out];rfl),hx0.trans hx1⟩
  ·by_cases h3:k=3
   ·subst h3
    cases PQ
    ·go_enter Tryz.func207,Tryz.ntmps207
     go_wp2_with fail
     rw[HW.out]
     refine (CP.out _ hx0).mono ?_
     rintro e w1 ⟨rfl,hx1⟩
     have e1:=(b0.ext hx1).cell;have l1:=(b0.ext hx1).lt
     go_wp2
     go_ret
     exact⟨ret_int (by rw[HE.out];rfl),hx0.trans hx1⟩
    ·cases O
     ·cases V
      ·go_enter Tryz.func207,Tryz.ntmps207
       go_wp2_with fail
       rw[HW.out]
       refine (CP.out _ hx0).mono ?_
       rintro e w1 ⟨rfl,hx1⟩
       have e1:=(b0.ext hx1).cell;have l1:=(b0.ext hx1).lt
       go_wp2_with fail
       refine (CO.out _).mono ?_
       rintro e w' ⟨rfl,rfl⟩
       go_wp2_with fail
       refine (CV.out _).mono ?_
       rintro e w' ⟨rfl,rfl⟩
       go_wp2
       go_ret
       exact⟨ret_int (by rw[HE.out];rfl),hx0.trans hx1⟩
      ·cases Z
       ·have hz:=emp_of_size (HZ.out rfl);have hz2:=emp_bool (HZ.out rfl)
        go_enter Tryz.func207,Tryz.ntmps207
        go_wp2_with fail
        rw[HW.out]
        refine (CP.out _ hx0).mono ?_
        rintro e w1 ⟨rfl,hx1⟩
        have e1:=(b0.ext hx1).cell;have l1:=(b0.ext hx1).lt
        go_wp2_with fail
        refine (CO.out _).mono ?_
        rintro e w' ⟨rfl,rfl⟩
        go_wp2_with fail
        refine (CV.out _).mono ?_
        rintro e w' ⟨rfl,rfl⟩
        go_wp2
        go_ret
        exact⟨ret_int (by rw[HE.out];rfl),hx0.trans hx1⟩
       ·have hz:=nemp_of_size (HY.out rfl);have hz2:=nemp_bool (HY.out rfl)
        go_enter Tryz.func207,Tryz.ntmps207
        go_wp2_with fail
        rw[HW.out]
        refine (CP.out _ hx0).mono ?_
        rintro e w1 ⟨rfl,hx1⟩
        have e1:=(b0.ext hx1).cell;have l1:=(b0.ext hx1).lt
        go_wp2_with fail
        refine (CO.out _).mono ?_
        rintro e w' ⟨rfl,rfl⟩
        go_wp2_with fail
        refine (CV.out _).mono ?_
        rintro e w' ⟨rfl,rfl⟩
        go_wp2
        go_ret
        exact⟨ret_int (by rw[HE.out];rfl),hx0.trans hx1⟩
     ·go_enter Tryz.func207,Tryz.ntmps207
      go_wp2_with fail
      rw[HW.out]
      refine (CP.out _ hx0).mono ?_
      rintro e w1 ⟨rfl,hx1⟩
      have e1:=(b0.ext hx1).cell;have l1:=(b0.ext hx1).lt
      go_wp2_with fail
      refine (CO.out _).mono ?_
      rintro e w' ⟨rfl,rfl⟩
      go_wp2
      go_ret
      exact⟨ret_int (by rw[HE.out];rfl),hx0.trans hx1⟩
   ·by_cases h4:k=4
    ·subst h4
     cases PQ
     ·go_enter Tryz.func207,Tryz.ntmps207
      go_wp2_with fail
      rw[HW.out]
      refine (CP.out _ hx0).mono ?_
      rintro e w1 ⟨rfl,hx1⟩
      have e1:=(b0.ext hx1).cell;have l1:=(b0.ext hx1).lt
      go_wp2
      go_ret
      exact⟨ret_int (by rw[HE.out];rfl),hx0.trans hx1⟩
     ·cases O
      ·cases V
       ·go_enter Tryz.func207,Tryz.ntmps207
        go_wp2_with fail
        rw[HW.out]
        refine (CP.out _ hx0).mono ?_
        rintro e w1 ⟨rfl,hx1⟩
        have e1:=(b0.ext hx1).cell;have l1:=(b0.ext hx1).lt
        go_wp2_with fail
        refine (CO.out _).mono ?_
        rintro e w' ⟨rfl,rfl⟩
        go_wp2_with fail
        refine (CV.out _).mono ?_
        rintro e w' ⟨rfl,rfl⟩
        go_wp2
        go_ret
        exact⟨ret_int (by rw[HE.out];rfl),hx0.trans hx1⟩
       ·cases Z
        ·have hz:=emp_of_size (HZ.out rfl);have hz2:=emp_bool (HZ.out rfl)
         go_enter Tryz.func207,Tryz.ntmps207
         go_wp2_with fail
         rw[HW.out]
         refine (CP.out _ hx0).mono ?_
         rintro e w1 ⟨rfl,hx1⟩
         have e1:=(b0.ext hx1).cell;have l1:=(b0.ext hx1).lt
         go_wp2_with fail
         refine (CO.out _).mono ?_
         rintro e w' ⟨rfl,rfl⟩
         go_wp2_with fail
         refine (CV.out _).mono ?_
         rintro e w' ⟨rfl,rfl⟩
         go_wp2
         go_ret
         exact⟨ret_int (by rw[HE.out];rfl),hx0.trans hx1⟩
        ·have hz:=nemp_of_size (HY.out rfl);have hz2:=nemp_bool (HY.out rfl)
         go_enter Tryz.func207,Tryz.ntmps207
         go_wp2_with fail
         rw[HW.out]
         refine (CP.out _ hx0).mono ?_
         rintro e w1 ⟨rfl,hx1⟩
         have e1:=(b0.ext hx1).cell;have l1:=(b0.ext hx1).lt
         go_wp2_with fail
         refine (CO.out _).mono ?_
         rintro e w' ⟨rfl,rfl⟩
         go_wp2_with fail
         refine (CV.out _).mono ?_
         rintro e w' ⟨rfl,rfl⟩
         go_wp2
         go_ret
         exact⟨ret_int (by rw[HE.out];rfl),hx0.trans hx1⟩
      ·go_enter Tryz.func207,Tryz.ntmps207
       go_wp2_with fail
       rw[HW.out]
       refine (CP.out _ hx0).mono ?_
       rintro e w1 ⟨rfl,hx1⟩
       have e1:=(b0.ext hx1).cell;have l1:=(b0.ext hx1).lt
       go_wp2_with fail
       refine (CO.out _).mono ?_
       rintro e w' ⟨rfl,rfl⟩
       go_wp2
       go_ret
       exact⟨ret_int (by rw[HE.out];rfl),hx0.trans hx1⟩
    ·by_cases h5:k=5
     ·subst h5
      cases NQ
      ·go_enter Tryz.func207,Tryz.ntmps207
       go_wp2_with fail
       rw[HW.out]
       refine (CN.out _).mono ?_
       rintro e w' ⟨rfl,rfl⟩
       go_wp2
       go_ret
       exact⟨ret_int (by rw[HE.out];rfl),hx0.trans hx1⟩
      ·cases V
       ·go_enter Tryz.func207,Tryz.ntmps207
        go_wp2_with fail
        rw[HW.out]
        refine (CN.out _).mono ?_
        rintro e w' ⟨rfl,rfl⟩
        go_wp2_with fail
        refine (CV.out _).mono ?_
        rintro e w' ⟨rfl,rfl⟩
        go_wp2
        go_ret
        exact⟨ret_int (by rw[HE.out];rfl),hx0.trans hx1⟩
       ·cases Z
        ·have hz:=emp_of_size (HZ.out rfl);have hz2:=emp_bool (HZ.out rfl)
         go_enter Tryz.func207,Tryz.ntmps207
         go_wp2_with fail
         rw[HW.out]
         refine (CN.out _).mono ?_
         rintro e w' ⟨rfl,rfl⟩
         go_wp2_with fail
         refine (CV.out _).mono ?_
         rintro e w' ⟨rfl,rfl⟩
         go_wp2
         go_ret
         exact⟨ret_int (by rw[HE.out];rfl),hx0.trans hx1⟩
        ·have hz:=nemp_of_size (HY.out rfl);have hz2:=nemp_bool (HY.out rfl)
         go_enter Tryz.func207,Tryz.ntmps207
         go_wp2_with fail
         rw[HW.out]
         refine (CN.out _).mono ?_
         rintro e w' ⟨rfl,rfl⟩
         go_wp2_with fail
         refine (CV.out _).mono ?_
         rintro e w' ⟨rfl,rfl⟩
         go_wp2
         go_ret
         exact⟨ret_int (by rw[HE.out];rfl),hx0.trans hx1⟩
     ·by_cases h6:k=6
      ·subst h6
       cases NQ
       ·go_enter Tryz.func207,Tryz.ntmps207
        go_wp2_with fail
        rw[HW.out]
        refine (CN.out _).mono ?_
        rintro e w' ⟨rfl,rfl⟩
        go_wp2
        go_ret
        exact⟨ret_int (by rw[HE.out];rfl),hx0.trans hx1⟩
       ·cases V
        ·go_enter Tryz.func207,Tryz.ntmps207
         go_wp2_with fail
         rw[HW.out]
         refine (CN.out _).mono ?_
         rintro e w' ⟨rfl,rfl⟩
         go_wp2_with fail
         refine (CV.out _).mono ?_
         rintro e w' ⟨rfl,rfl⟩
         go_wp2
         go_ret
         exact⟨ret_int (by rw[HE.out];rfl),hx0.trans hx1⟩
        ·cases Z
         ·have hz:=emp_of_size (HZ.out rfl);have hz2:=emp_bool (HZ.out rfl)
          go_enter Tryz.func207,Tryz.ntmps207
          go_wp2_with fail
          rw[HW.out]
          refine (CN.out _).mono ?_
          rintro e w' ⟨rfl,rfl⟩
          go_wp2_with fail
          refine (CV.out _).mono ?_
          rintro e w' ⟨rfl,rfl⟩
          go_wp2
          go_ret
          exact⟨ret_int (by rw[HE.out];rfl),hx0.trans hx1⟩
         ·have hz:=nemp_of_size (HY.out rfl);have hz2:=nemp_bool (HY.out rfl)
          go_enter Tryz.func207,Tryz.ntmps207
          go_wp2_with fail
          rw[HW.out]
          refine (CN.out _).mono ?_
          rintro e w' ⟨rfl,rfl⟩
          go_wp2_with fail
          refine (CV.out _).mono ?_
          rintro e w' ⟨rfl,rfl⟩
          go_wp2
          go_ret
          exact⟨ret_int (by rw[HE.out];rfl),hx0.trans hx1⟩
      ·have HE3:=Hy (show E=1 from by rw[HE.out,if_pos (by simp;omega)])
       rcases (show k < 1∨6 < k by omega) with hk|hk
       all_goals
        clear h1 h2 h3 h4 h5 h6
        go_enter Tryz.func207,Tryz.ntmps207
        go_wp2_with fail
        rw[HW.out]
        go_wp2
        go_ret
        exact⟨ret_int HE3.out.symm,hx0⟩
end Go.Proofs.YtmpccllnpcbgcaaGreatDoor
