/- Contracts of ver.spanFault, CheckRange. -/
import Derived.Test.YtmnafaaijglnfaaGreatDoorOm06
namespace Go.Proofs.YtmnafaaijglnfaaGreatDoor
open Go.RowKit
theorem spErr_bad {s:Sp} (h:(!s.hf&&!decide (s.f=zeroV)||!s.ht&&!decide (s.t=zeroV))=true):spErr s=2:=by
 unfold spErr
 rw[if_pos]
 simpa using h
theorem spErr_rest {s:Sp} (h:((s.hf||decide (s.f=zeroV))&&(s.ht||decide (s.t=zeroV)))=true) :
 spErr s=if s.f.err≠0 then s.f.err else if s.t.err≠0 then s.t.err else if (s.hf&&s.ht&&decide (0<=s.f.ord s.t))=true then 7 else 0:=by
 unfold spErr
 rw[if_neg]
 simp only[Bool.and_eq_true,Bool.or_eq_true,decide_eq_true_eq,Bool.not_eq_true',decide_eq_true_eq,not_or,not_and] at h ⊢
 exact⟨fun h1=>by rcases h.1 with e|e;rw[e] at h1;cases h1;simpa using e,fun h1=>by rcases h.2 with e|e;rw[e] at h1;cases h1;simpa using e⟩
theorem spErr_f {s:Sp} (h:((s.hf||decide (s.f=zeroV))&&(s.ht||decide (s.t=zeroV)))=true) (h1:¬ s.f.err=0):spErr s=s.f.err:=by rw[spErr_rest h,if_pos h1]
theorem spErr_t {s:Sp} (h:((s.hf||decide (s.f=zeroV))&&(s.ht||decide (s.t=zeroV)))=true) (h1:s.f.err=0) (h2:¬ s.t.err=0):spErr s=s.t.err:=by rw[spErr_rest h,if_neg (by simpa using h1),if_pos h2]
theorem spErr_7 {s:Sp} (h:((s.hf||decide (s.f=zeroV))&&(s.ht||decide (s.t=zeroV)))=true) (h1:s.f.err=0) (h2:s.t.err=0) (h3:s.hf=true) (h4:s.ht=true) (h5:0<=s.f.ord s.t):spErr s=7:=by
 rw[spErr_rest h,if_neg (by simpa using h1),if_neg (by simpa using h2),h3,h4,if_pos (by simpa using h5)]
theorem spErr_0 {s:Sp} (h:((s.hf||decide (s.f=zeroV))&&(s.ht||decide (s.t=zeroV)))=true) (h1:s.f.err=0) (h2:s.t.err=0) (h3:s.hf=false∨s.ht=false∨¬ 0<=s.f.ord s.t):spErr s=0:=by
 rw[spErr_rest h,if_neg (by simpa using h1),if_neg (by simpa using h2),if_neg]
 rcases h3 with e|e|e
 ·rw[e];simp
 ·rw[e];simp
 ·rw[decide_eq_false e];simp
set_option maxHeartbeats 4000000 in
theorem spanFault_bad (hf ht:Bool) (f t:V4) (w:World) (hb:(!hf&&!decide (f=zeroV)||!ht&&!decide (t=zeroV))=true) :
 Calls Tryz.prog 157 #[spV ⟨hf,ht,f,t⟩] w fun e w'=>e=.returned (.int .i64 2)∧Ext w w':=by
 have q1:=run_neqv f zeroV
 have q2:=run_neqv t zeroV
 generalize decide (f=zeroV)=p at *
 generalize decide (t=zeroV)=q at *
 obtain⟨f1,f2,f3,fa⟩:=f
 obtain⟨t1,t2,t3,ta⟩:=t
 dsimp only[verV,zeroV] at q1 q2
 dsimp only[spV]
 go_enter Tryz.func157,Tryz.ntmps157
 cases hf<;>cases ht<;>cases p<;>cases q<;>first
  | (exact absurd hb (by decide))
  | (clear hb;simp only[Bool.not_true,Bool.not_false] at q1 q2;go_wp2;go_ret;exact⟨rfl,Ext.au⟩)
set_option maxHeartbeats 8000000 in
theorem spanFault_rest (hf ht:Bool) (f t:V4) (w:World) (hg:Good w) (hfs:f.a.size<=2097152) (hts:t.a.size<=2097152) (hb:((hf||decide (f=zeroV))&&(ht||decide (t=zeroV)))=true) :
 Calls Tryz.prog 157 #[spV ⟨hf,ht,f,t⟩] w fun e w'=>e=.returned (.int .i64 (spErr ⟨hf,ht,f,t⟩))∧Ext w w':=by
 have q1:=run_neqv f zeroV
 have q2:=run_neqv t zeroV
 have sF:=spErr_f (s:=⟨hf,ht,f,t⟩) hb
 have sT:=spErr_t (s:=⟨hf,ht,f,t⟩) hb
 have s7:=spErr_7 (s:=⟨hf,ht,f,t⟩) hb
 have s0:=spErr_0 (s:=⟨hf,ht,f,t⟩) hb
 have hF:decide (f=zeroV)=true->f.err=0:=fun e=>by rw[of_decide_eq_true e];exact zero_err
 have hT:decide (t=zeroV)=true->t.err=0:=fun e=>by rw[of_decide_eq_true e];exact zero_err
 dsimp only at sF sT s7 s0
 generalize spErr ⟨hf,ht,f,t⟩=r at *
 generalize decide (f=zeroV)=p at *
 generalize decide (t=zeroV)=q at *
 obtain⟨f1,f2,f3,fa⟩:=f
 obtain⟨t1,t2,t3,ta⟩:=t
 dsimp only[verV,zeroV] at q1 q2
 dsimp only[V4.err,V4.ord] at sF sT s7 s0 hF hT
 dsimp only at hfs hts
 dsimp only[spV]
 have HF:=Hy hF
 have HT:=Hy hT
 have SF:=Hy sF
 have ST:=Hy sT
 have S7:=Hy s7
 have S0:=Hy s0
 clear hF hT sF sT s7 s0
 go_enter Tryz.func157,Tryz.ntmps157
 cases hf<;>cases ht<;>cases p<;>cases q<;>first
  | (exact absurd hb (by decide))
  | (clear hb;simp only[Bool.not_true,Bool.not_false] at q1 q2
     go_wp2_with fail
     refine (Check_any f1 f2 f3 fa _ (hg.ext Ext.au) hfs).mono ?_
     rintro e w1 ⟨rfl,hx1⟩
     obtain⟨hc1,hf1⟩:=hx1.cells
     have hz1:=hx1.size
     have hx1':=Ext.trans (a:=w) Ext.au hx1
     by_cases e1:checkV f1 f2 f3 (bs fa)=0
     ·have E1:=Hy e1
      rw[e1]
      clear e1
      go_wp2_with fail
      refine (Check_any t1 t2 t3 ta _ (hg.ext hx1') hts).mono ?_
      rintro e w2 ⟨rfl,hx2⟩
      obtain⟨hc2,hf2⟩:=hx2.cells
      have hz2:=hx2.size
      have hx2':=hx1'.trans hx2
      have hz3:w.heap.size < w1.heap.size:=by simp at hz1;omega
      by_cases e2:checkV t1 t2 t3 (bs ta)=0
      ·have E2:=Hy e2
       rw[e2]
       clear e2
       first
        | (go_wp2;go_ret;exact⟨ret_int (S0.out E1.out E2.out (by simp)).symm,hx2'⟩)
        | (go_wp2_with fail
           refine (Order_any f1 f2 f3 t1 t2 t3 fa ta _ (hg.ext hx2') hfs hts).mono ?_
           rintro e w3 ⟨rfl,hx3⟩
           by_cases ho:0<=orderL f1 f2 f3 (bs fa) t1 t2 t3 (bs ta)
           ·have HO:=Hy ho
            go_wp2
            go_ret
            exact⟨ret_int (S7.out E1.out E2.out (by trivial) (by trivial) HO.out).symm,hx2'.trans hx3⟩
           ·have HO:=Hy ho
            go_wp2
            go_ret
            exact⟨ret_int (S0.out E1.out E2.out (.inr (.inr (by have:=HO.out;omega)))).symm,hx2'.trans hx3⟩)
      ·first
        | exact absurd (HT.out rfl) e2
        | exact absurd (HT.out trivial) e2
        | (go_wp2;go_ret;exact⟨ret_int (ST.out E1.out e2).symm,hx2'⟩)
     ·first
       | exact absurd (HF.out rfl) e1
       | exact absurd (HF.out trivial) e1
       | (go_wp2;go_ret;exact⟨ret_int (SF.out e1).symm,hx1'⟩))
theorem spanFault_any (s:Sp) (w:World) (hg:Good w) (hfs:s.f.a.size<=2097152) (hts:s.t.a.size<=2097152) :
 Calls Tryz.prog 157 #[spV s] w fun e w'=>e=.returned (.int .i64 (spErr s))∧Ext w w':=by
 by_cases h:(!s.hf&&!decide (s.f=zeroV)||!s.ht&&!decide (s.t=zeroV))=true
 ·rw[spErr_bad h]
  exact spanFault_bad s.hf s.ht s.f s.t w h
 ·refine spanFault_rest s.hf s.ht s.f s.t w hg hfs hts ?_
  revert h
  cases s.hf<;>cases s.ht<;>cases decide (s.f=zeroV)<;>cases decide (s.t=zeroV)<;>decide
end Go.Proofs.YtmnafaaijglnfaaGreatDoor
