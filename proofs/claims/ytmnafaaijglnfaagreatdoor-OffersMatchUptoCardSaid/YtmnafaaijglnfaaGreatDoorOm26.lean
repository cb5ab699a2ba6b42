/- Contracts of ver.partFault and outref2.partError. -/
import Derived.Test.YtmnafaaijglnfaaGreatDoorOm18
import Derived.Test.YtmnafaaijglnfaaGreatDoorOm24
namespace Go.Proofs.YtmnafaaijglnfaaGreatDoor
open Go.RowKit
theorem data_nil (n:ByteArray):(n.data=#[])=(n.toList=[]):=by rw[ByteArray.toList_eq,Array.toList_eq_nil_iff]
theorem kind8 {k:Int} (h1:¬ k < 1) (h2:¬ 8 < k):k=1∨k=2∨k=3∨k=4∨k=5∨k=6∨k=7∨k=8:=by omega
set_option maxRecDepth 100000 in
set_option maxHeartbeats 8000000 in
theorem partFault_any (k:Int) (n x:ByteArray) (A:Option Addr) (m cp:Nat) (w:World) (hg:GoodN w) (hn:n.size<=2097152) (hx:x.size<=2097152) (hm:m<=100000000) :
 Calls Tryz.prog 174 #[.agg #[.int .i64 k,.string n,.string x,.slice A m cp]] w fun e w'=>e=.returned (.int .i64 (partErr k (bs n) (bs x) m))∧Ext w w':=by
 have hx0:Ext w (w.alloc (.cells #[.int .i64 k,.string n,.string x,.slice A m cp] 52)):=(Ext.refl w).alloc _
 by_cases h1:k < 1
 ·have hp:partErr k (bs n) (bs x) m=1:=by unfold partErr;rw[if_pos (.inl h1)]
  rw[hp]
  go_enter Tryz.func174,Tryz.ntmps174
  go_wp2
  go_ret
  exact⟨rfl,hx0⟩
 by_cases h2:8 < k
 ·have hp:partErr k (bs n) (bs x) m=1:=by unfold partErr;rw[if_pos (.inr h2)]
  rw[hp]
  go_enter Tryz.func174,Tryz.ntmps174
  go_wp2
  go_ret
  exact⟨rfl,hx0⟩
 have e6:((m:Int) != 1)=!decide (m=1):=by
  by_cases h:m=1
  ·subst h;rfl
  ·rw[decide_eq_false h,Bool.not_false,bne_iff_ne];omega
 rcases kind8 h1 h2 with rfl|rfl|rfl|rfl|rfl|rfl|rfl|rfl
 all_goals clear h1 h2
 all_goals
  go_enter Tryz.func174,Tryz.ntmps174
  go_wp2_with (first
   | (go_at_call 18;refine (IsName_any _ _ hn).mono ?_;rintro e w' ⟨rfl,rfl⟩)
   | (go_at_call 20;refine (IsPath_any _ _ (hg.toGood.ext ((Ext.refl w).alloc _)) hn).mono ?_;rintro e w1 ⟨rfl,hx1⟩;(obtain⟨hc1,hf1⟩:=hx1.cells);have hz1:=hx1.size)
   | (go_at_call 22;refine (IsValue_any _ _ hx).mono ?_;rintro e w' ⟨rfl,rfl⟩)
   | (go_at_call 31;refine (ParseRange_any _ _ (hg.ext ((Ext.refl w).alloc _)) hx).mono ?_;rintro e w1 ⟨B,c,rfl,_,_,hx1⟩))
 all_goals go_ret
 all_goals refine⟨ret_int ?_,?_⟩
 all_goals first|(simp[partErr,formBad,namedK,valuedK,data_nil, *];done)|exact (Ext.refl w).alloc _|exact Ext.trans ((Ext.refl w).alloc _) (by assumption)|exact (Ext.trans ((Ext.refl w).alloc _) (by assumption)).alloc _|skip
theorem value_nil {x:ByteArray} (h:x.toList=[]):valueL (bs x)=true:=by
 rw[ByteArray.toList_eq] at h
 rw[show bs x=[] from h]
 rfl
set_option maxRecDepth 100000 in
set_option maxHeartbeats 8000000 in
theorem partError_any (k:Int) (n x:ByteArray) (A:Option Addr) (m cp:Nat) (w:World) (hg:GoodN w) (hn:n.size<=2097152) (hx:x.size<=2097152) (hm:m<=100000000) :
 Calls Tryz.prog 182 #[.agg #[.int .i64 k,.string n,.string x,.slice A m cp]] w fun e w'=>e=.returned (.int .i64 (partErr k (bs n) (bs x) m))∧Ext w w':=by
 have hr:∀ W,Ext w W->Calls Tryz.prog 33 #[.string x] W (RangePost (parseR (bs x)) W):=fun W hW=>by
  rw[<-read_same];exact ReadRange_any x W (hg.ext hW) hx
 have HR:=Hy hr
 clear hr
 by_cases h1:k < 1∨8 < k
 ·have hp:partErr k (bs n) (bs x) m=1:=by unfold partErr;rw[if_pos h1]
  rw[hp]
  have e (z:Int) (h:k≠z):(k==z)=false:=beq_eq_false_iff_ne.2 h
  have e1:=e 1 (by omega);have e2:=e 2 (by omega);have e3:=e 3 (by omega);have e4:=e 4 (by omega);have e5:=e 5 (by omega);have e6:=e 6 (by omega);have e7:=e 7 (by omega);have e8:=e 8 (by omega)
  clear e h1 hp
  go_enter Tryz.func182,Tryz.ntmps182
  go_wp2
  go_ret
  exact⟨rfl,(Ext.refl w).alloc _⟩
 have e6:((m:Int) != 1)=!decide (m=1):=by
  by_cases h:m=1
  ·subst h;rfl
  ·rw[decide_eq_false h,Bool.not_false,bne_iff_ne];omega
 rcases kind8 (fun h=>h1 (.inl h)) (fun h=>h1 (.inr h)) with rfl|rfl|rfl|rfl|rfl|rfl|rfl|rfl
 all_goals clear h1
 all_goals
  go_enter Tryz.func182,Tryz.ntmps182
  go_wp2_with (first
   | (go_at_call 19;refine (NameOf_any _ _ hn).mono ?_;rintro e w1 ⟨rfl,hx1⟩;(obtain⟨hc1,hf1⟩:=hx1.cells);have hz1:=hx1.size)
   | (go_at_call 21;refine (PathOf_any _ _ (hg.toGood.ext ((Ext.refl w).alloc _)) hn).mono ?_;rintro e w1 ⟨rfl,hx1⟩;(obtain⟨hc1,hf1⟩:=hx1.cells);have hz1:=hx1.size)
   | (go_at_call 23;refine (ValueOf_any _ _ hx).mono ?_;rintro e w' ⟨rfl,rfl⟩)
   | (go_at_call 33;refine (HR.out _ (Ext.trans ((Ext.refl w).alloc _) (by assumption))).mono ?_;rintro e w2 ⟨B,c,rfl,_,_,hx2⟩))
 all_goals go_ret
 all_goals refine⟨ret_int ?_,?_⟩
 all_goals first|(simp[partErr,formBad,namedK,valuedK,data_nil, *];done)|exact (Ext.refl w).alloc _|exact Ext.trans ((Ext.refl w).alloc _) (by assumption)|exact (Ext.trans (Ext.trans ((Ext.refl w).alloc _) (by assumption)) (by assumption)).alloc _|(exfalso;have hv:=value_nil (by assumption);simp_all;done)|skip
end Go.Proofs.YtmnafaaijglnfaaGreatDoor
