/- Contracts of ver.has, Has. -/
import Derived.Test.YtmnafaaijglnfaaGreatDoorOm14
namespace Go.Proofs.YtmnafaaijglnfaaGreatDoor
open Go.RowKit
def hitL (n:Nat) (s:Sp) (v:V4):Bool:=insideL s v&&(decide (v.a.size=0)||(decide (n=1)&&!s.hf&&!s.ht)||nearL s.hf s.f v||nearL s.ht s.t v)
def hasL (l:List Sp) (v:V4):Bool:=l.any fun s=>hitL l.length s v
theorem hasL_yes {l:List Sp} {v:V4} {k:Nat} (h:k < l.length) (e:hitL l.length l[k] v=true):hasL l v=true:=List.any_eq_true.2 ⟨_,List.getElem_mem h,e⟩
theorem hasL_no {l:List Sp} {v:V4} (h:∀ j (hj:j < l.length),hitL l.length l[j] v=false):hasL l v=false:=by
 rw[hasL,List.any_eq_false]
 intro s hs
 obtain⟨k,hk,rfl⟩:=List.mem_iff_getElem.1 hs
 rw[h k hk]
 decide
set_option maxHeartbeats 8000000 in
set_option maxRecDepth 100000 in
theorem has_any (A:Option Addr) (n c:Nat) (l:List Sp) (v:V4) (w:World) (hg:Good w) (hn:l.length=n) (hr:RdS w A l) (hs:SmallS l) (hl:n<=2097152) (hv:v.a.size<=2097152) :
 Calls Tryz.prog 253 #[.agg #[.slice A n c],verV v] w fun e w'=>e=.returned (.bool (hasL l v))∧Ext w w':=by
 have HN:=Hy hn
 clear hn
 obtain⟨v1,v2,v3,va⟩:=v
 dsimp only at hv
 generalize hV:(⟨v1,v2,v3,va⟩:V4)=V at *
 have HV:=Hy hV
 rcases Nat.eq_zero_or_pos n with h0|h0
 ·subst h0
  have hR:hasL l V=false:=by rw[List.eq_nil_of_length_eq_zero HN.out];rfl
  have HR:=Hy hR
  clear hR hV
  rw[HR.out,<-HV.out]
  dsimp only[verV]
  go_enter Tryz.func253,Tryz.ntmps253
  go_wp2
  go_loop [11] (fun i=>i=.int .i64 0) (fun i=>0)
  case atStart=>rfl
  case round =>
   subst hrel
   go_wp2
   go_ret
   exact⟨rfl,Ext.au⟩
 obtain⟨b,o,rfl,hX⟩:=hr (fun e=>by have:=HN.out;rw[e] at this;simp at this;omega)
 clear hr hV
 rw[<-HV.out]
 dsimp only[verV]
 rw[HV.out]
 have hbR:=(Blk.new w 42 #[.slice (some ⟨b,o,none⟩) n c]).alloc (.cells #[.int .i64 v1,.int .i64 v2,.int .i64 v3,.string va] 23)
 have hbV:=Blk.new (w.alloc (.cells #[.slice (some ⟨b,o,none⟩) n c] 42)) 23 #[.int .i64 v1,.int .i64 v2,.int .i64 v3,.string va]
 rw[World.size_alloc] at hbV
 have hx0:Ext w ((w.alloc (.cells #[.slice (some ⟨b,o,none⟩) n c] 42)).alloc (.cells #[.int .i64 v1,.int .i64 v2,.int .i64 v3,.string va] 23)):=((Ext.refl w).alloc _).alloc _
 obtain⟨w0,hw0⟩:∃ w0,w0=(w.alloc (.cells #[.slice (some ⟨b,o,none⟩) n c] 42)).alloc (.cells #[.int .i64 v1,.int .i64 v2,.int .i64 v3,.string va] 23):=⟨_,rfl⟩
 rw[<-hw0] at hbR hbV hx0
 have HW0:=Hy hw0
 clear hw0
 go_enter Tryz.func253,Tryz.ntmps253
 go_wp2
 go_loopw [11] (fun i wr=>∃ k:Nat,k<=n∧i=.int .i64 k∧(∀ j (hj:j < l.length),j < k->hitL n l[j] V=false)∧Ext w0 wr) (fun i _=>n - (intOf i).toNat)
 case atStart=>exact⟨0,Nat.zero_le _,rfl,fun j _ h=>absurd h (Nat.not_lt_zero _),by rw[HW0.out];exact Ext.refl _⟩
 case round =>
  obtain⟨k,hk,rfl,hall,hxr⟩:=hrel
  have HALL:=Hy hall
  clear hall
  have hxw:=hx0.trans hxr
  by_cases hlt:k < n
  ·have hk1:k < l.length:=by rw[HN.out];exact hlt
   have X:=hX.ext hxw
   have x0:=X.c0 k hk1;have x1:=X.c1 k hk1;have x2:=X.c2 k hk1;have x3:=X.c3 k hk1;have x4:=X.c4 k hk1
   have x5:=X.c5 k hk1;have x6:=X.c6 k hk1;have x7:=X.c7 k hk1;have x8:=X.c8 k hk1;have x9:=X.c9 k hk1
   have hz1:=hs l[k] (List.getElem_mem hk1)
   have HYES:=Hy (fun e=>hasL_yes (v:=V) hk1 e)
   have HNEXT:=Hy (show hitL n l[k] V=false->∀ j (hj:j < l.length),j < k+1->hitL n l[j] V=false from fun e j hj h=>by
    by_cases hjk:j=k
    ·subst hjk;exact e
    ·exact HALL.out j hj (by omega))
   rw[HN.out] at HYES
   have cW:=fun W (h:Ext w W)=>within_any l[k] V W (hg.ext h) hz1.1 hz1.2 (by rw[<-HV.out];exact hv)
   have cN1:=fun W=>names_any l[k].hf l[k].f V W
   have cN2:=fun W=>names_any l[k].ht l[k].t V W
   have hH:hitL n l[k] V=(insideL l[k] V&&(decide (V.a.size=0)||(decide (n=1)&&!l[k].hf&&!l[k].ht)||nearL l[k].hf l[k].f V||nearL l[k].ht l[k].t V)):=rfl
   generalize hitL n l[k] V=H at *
   generalize insideL l[k] V=I at *
   generalize nearL l[k].hf l[k].f V=N1 at *
   generalize nearL l[k].ht l[k].t V=N2 at *
   generalize l[k]=s at *
   obtain⟨hf,ht,⟨f1,f2,f3,fa⟩,⟨t1,t2,t3,ta⟩⟩:=s
   dsimp only at x0 x1 x2 x3 x4 x5 x6 x7 x8 x9 hz1 cN1 cN2 hH
   rw[<-HV.out] at cW cN1 cN2 hH
   dsimp only[verV,spV] at cW cN1 cN2 hH
   have CW:=Hy cW;have CN1:=Hy cN1;have CN2:=Hy cN2;have HH:=Hy hH
   clear cW cN1 cN2 hH X hz1
   have bR:=hbR.ext hxr;have bV:=hbV.ext hxr
   have cR:=bR.cell;have cV:=bV.cell
   have lR:=bR.lt;have lV:=bV.lt
   have hxs:Ext wr (wr.alloc (.cells #[.bool hf,.bool ht,.int .i64 f1,.int .i64 f2,.int .i64 f3,.string fa,.int .i64 t1,.int .i64 t2,.int .i64 t3,.string ta] 130)):=(Ext.refl wr).alloc _
   have bS:=Blk.new wr 130 #[.bool hf,.bool ht,.int .i64 f1,.int .i64 f2,.int .i64 f3,.string fa,.int .i64 t1,.int .i64 t2,.int .i64 t3,.string ta]
   have fin1:∀ W,Ext (wr.alloc (.cells #[.bool hf,.bool ht,.int .i64 f1,.int .i64 f2,.int .i64 f3,.string fa,.int .i64 t1,.int .i64 t2,.int .i64 t3,.string ta] 130)) W->Ext w0 W:=fun W h=>(hxr.trans hxs).trans h
   have FIN:=Hy fin1
   clear fin1
   obtain⟨D,B,hD,hB,hways⟩:∃ D B:Bool,(decide (n=1)&&!hf&&!ht)=D∧((n:Int)==1)=B∧((B=false∧D=false)∨(B=true∧hf=true∧D=false)∨(B=true∧hf=false∧ht=true∧D=false)∨(B=true∧hf=false∧ht=false∧D=true)):=by
    refine⟨_,_,rfl,rfl,?_⟩
    by_cases h1:n=1
    ·have e:((n:Int)==1)=true:=by rw[beq_iff_eq];omega
     rw[e]
     cases hf<;>cases ht<;>simp[h1]
    ·have e:((n:Int)==1)=false:=by rw[beq_eq_false_iff_ne];omega
     exact .inl ⟨e,by simp[h1]⟩
   rw[hD] at HH
   clear hD
   rcases hways with ⟨rfl,rfl⟩|⟨rfl,rfl,rfl⟩|⟨rfl,rfl,rfl,rfl⟩|⟨rfl,rfl,rfl,rfl⟩
   all_goals
    go_wp2_with fail
    refine (CW.out _ (hxw.trans hxs)).mono ?_
    rintro e w1 ⟨rfl,hx1⟩
    have cS1:=(bS.ext hx1).cell;have lS1:=(bS.ext hx1).lt
    have cV1:=((bV.ext hxs).ext hx1).cell;have lV1:=((bV.ext hxs).ext hx1).lt
    cases I
    ·have HF:=Hy (HNEXT.out (by rw[HH.out];simp))
     go_wp2
     go_roundw
     case rel=>exact⟨k+1,by omega,by go_num,HF.out,FIN.out _ hx1⟩
     case measure=>simp[intOf];omega
    rcases Nat.eq_zero_or_pos va.size with he|he
    ·have HF:=Hy (HYES.out (by rw[HH.out];simp[he]))
     have hl:=emp_of_size he
     have hb:=emp_bool he
     clear he
     go_wp2
     go_ret
     exact⟨ret_bool HF.out.symm,(hx0.trans (FIN.out _ hx1))⟩
    have hl:=nemp_of_size he
    have hb:=nemp_bool he
    first
    | (have HF:=Hy (HYES.out (by rw[HH.out];simp))
       go_wp2
       go_ret
       exact⟨ret_bool HF.out.symm,(hx0.trans (FIN.out _ hx1))⟩)
    | (have HE:=Hy (show decide (va.size=0)=false from decide_eq_false (by omega))
       go_wp2_with fail
       refine (CN1.out _).mono ?_
       rintro e w2 ⟨rfl,hx2⟩
       have cS2:=((bS.ext hx1).ext hx2).cell;have lS2:=((bS.ext hx1).ext hx2).lt
       have cV2:=(((bV.ext hxs).ext hx1).ext hx2).cell;have lV2:=(((bV.ext hxs).ext hx1).ext hx2).lt
       cases N1
       ·go_wp2_with fail
        refine (CN2.out _).mono ?_
        rintro e w3 ⟨rfl,hx3⟩
        cases N2
        ·have HF:=Hy (HNEXT.out (by rw[HH.out,HE.out];rfl))
         go_wp2
         go_roundw
         case rel=>exact⟨k+1,by omega,by go_num,HF.out,FIN.out _ ((hx1.trans hx2).trans hx3)⟩
         case measure=>simp[intOf];omega
        ·have HF:=Hy (HYES.out (by rw[HH.out];simp))
         go_wp2
         go_ret
         exact⟨ret_bool HF.out.symm,(hx0.trans (FIN.out _ ((hx1.trans hx2).trans hx3)))⟩
       ·have HF:=Hy (HYES.out (by rw[HH.out];simp))
        go_wp2
        go_ret
        exact⟨ret_bool HF.out.symm,(hx0.trans (FIN.out _ (hx1.trans hx2)))⟩)
  ·obtain rfl:k=n:=by omega
   have HR:=Hy (hasL_no (l:=l) (v:=V) fun j hj=>by rw[HN.out];exact HALL.out j hj (by have:=HN.out;omega))
   go_wp2
   go_ret
   exact⟨ret_bool HR.out.symm,hxw⟩
end Go.Proofs.YtmnafaaijglnfaaGreatDoor
