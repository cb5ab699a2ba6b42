/- Contract of outref2.RangeError. -/
import Derived.Test.YtmnafaaijglnfaaGreatDoorOm14
namespace Go.Proofs.YtmnafaaijglnfaaGreatDoor
open Go.RowKit
theorem VerS.two {w:World} {b:Nat} {a1 a2 a3 b1 b2 b3:Int} {a e:ByteArray} (h0:w.cell? ⟨b,0,none⟩=some (.int .i64 a1)) (h1:w.cell? ⟨b,1,none⟩=some (.int .i64 a2)) (h2:w.cell? ⟨b,2,none⟩=some (.int .i64 a3)) (h3:w.cell? ⟨b,3,none⟩=some (.string a))
 (h4:w.cell? ⟨b,4,none⟩=some (.int .i64 b1)) (h5:w.cell? ⟨b,5,none⟩=some (.int .i64 b2)) (h6:w.cell? ⟨b,6,none⟩=some (.int .i64 b3)) (h7:w.cell? ⟨b,7,none⟩=some (.string e)):VerS w b [⟨a1,a2,a3,a⟩,⟨b1,b2,b3,e⟩]:=by
 constructor
 all_goals intro k hk
 all_goals match k,hk with
  | 0,_=>first|exact h0|exact h1|exact h2|exact h3
  | 1,_=>first|exact h4|exact h5|exact h6|exact h7
theorem err_two (a1 a2 a3 b1 b2 b3:Int) (a b:ByteArray):firstI ([(⟨a1,a2,a3,a⟩:V4),⟨b1,b2,b3,b⟩].map V4.err)=firstI [checkV a1 a2 a3 (bs a),checkV b1 b2 b3 (bs b)]:=rfl
theorem first_two_a {x y:Int} (h:¬ x=0):firstI [x,y]=x:=by rw[firstI,if_neg h]
theorem first_two_b {x y:Int} (h:x=0):firstI [x,y]=y:=by
 rw[firstI,if_pos h,firstI]
 by_cases hy:y=0
 ·rw[if_pos hy,hy];rfl
 ·rw[if_neg hy]
theorem bool_ok:∀ a p b q:Bool,¬ (!a&&!p||!b&&!q)=true->((a||p)&&(b||q))=true:=by decide
theorem bool_l:∀ a p b q:Bool,((a||p)&&(b||q))=true->a=true∨a=false∧p=true:=by decide
theorem bool_r:∀ a p b q:Bool,((a||p)&&(b||q))=true->b=true∨b=false∧q=true:=by decide
set_option maxHeartbeats 16000000 in
set_option maxRecDepth 100000 in
theorem RangeError_any (A:Option Addr) (n c:Nat) (l:List Sp) (w:World) (hg:GoodN w) (hn:l.length=n) (hr:RdS w A l) (hs:SmallS l) (hl:n<=2097152) :
 Calls Tryz.prog 29 #[.agg #[.slice A n c]] w fun e w'=>e=.returned (.int .i64 (rngErr l))∧Ext w w':=by
 have HN:=Hy hn
 clear hn
 by_cases h10:10 < n
 ·have hR:rngErr l=4:=rng_large (by rw[HN.out];exact h10)
  have HR:=Hy hR
  clear hR
  go_enter Tryz.func29,Tryz.ntmps29
  go_wp2
  go_ret
  exact⟨ret_int HR.out.symm,Ext.au⟩
 rcases Nat.eq_zero_or_pos n with h0|h0
 ·subst h0
  have he:l=[]:=List.eq_nil_of_length_eq_zero HN.out
  have hR:rngErr l=0:=by rw[he];rfl
  have HR:=Hy hR
  clear he hR
  go_enter Tryz.func29,Tryz.ntmps29
  go_wp2
  go_loop [13] (fun i=>i=.int .i64 0) (fun i=>0)
  case atStart=>rfl
  case round =>
   subst hrel
   go_wp2
   go_ret
   exact⟨ret_int HR.out.symm,Ext.au⟩
 obtain⟨b,o,rfl,hX⟩:=hr (fun e=>by have:=HN.out;rw[e] at this;simp at this;omega)
 clear hr
 go_enter Tryz.func29,Tryz.ntmps29
 go_wp2
 go_loopw [13] (fun i wr=>∃ k:Nat,k<=n∧i=.int .i64 k∧(∀ x∈(errsOf l).take k,x=0)∧Ext (w.alloc (.cells #[.slice (some ⟨b,o,none⟩) n c] 42)) wr) (fun i _=>n - (intOf i).toNat)
 case atStart=>exact⟨0,Nat.zero_le _,rfl,by simp,Ext.refl _⟩
 case round =>
  obtain⟨k,hk,rfl,hall,hxr⟩:=hrel
  have HALL:=Hy hall
  clear hall
  have hxw:Ext w wr:=Ext.trans Ext.au hxr
  have hB:=(Blk.new w 42 #[.slice (some ⟨b,o,none⟩) n c]).ext hxr
  by_cases hlt:k < n
  rotate_left
  ·obtain rfl:k=n:=by omega
   go_wp2
   go_ret
   exact⟨ret_int (rng_all (by have:=HN.out;omega) (by rw[HN.out];exact HALL.out)).symm,hxw⟩
  have hk1:k < l.length:=by rw[HN.out];exact hlt
  have X:=hX.ext hxw
  have x0:=X.c0 k hk1;have x1:=X.c1 k hk1;have x2:=X.c2 k hk1;have x3:=X.c3 k hk1;have x4:=X.c4 k hk1
  have x5:=X.c5 k hk1;have x6:=X.c6 k hk1;have x7:=X.c7 k hk1;have x8:=X.c8 k hk1;have x9:=X.c9 k hk1
  have hz1:=hs l[k] (List.getElem_mem hk1)
  have hbad:¬ spErr l[k]=0->rngErr l=spErr l[k]:=fun h=>by
   have e:=errAt_bad hk1 h
   rw[rng_at (by have:=HN.out;omega) hk1 HALL.out (by rw[e];exact h),e]
  have HBAD:=Hy hbad
  have hgood:errAt l k=0->∀ x∈(errsOf l).take (k+1),x=0:=rng_next hk1 HALL.out
  have HGOOD:=Hy hgood
  have hgapb:errAt l k=7->rngErr l=7:=fun h=>by rw[rng_at (by have:=HN.out;omega) hk1 HALL.out (by rw[h];decide),h]
  have HGAPB:=Hy hgapb
  clear hbad hgood hgapb
  -- what the gap to the span before gives
  have hgap:(k=0∧(spErr l[k]=0->errAt l k=0))∨∃ (j:Nat) (p:Sp),k=j+1∧p.t.err=0∧p.t.a.size<=2097152∧wr.cell? ⟨b,o+j * 10+1,none⟩=some (.bool p.ht)∧wr.cell? ⟨b,o+j * 10+6,none⟩=some (.int .i64 p.t.a1)∧wr.cell? ⟨b,o+j * 10+7,none⟩=some (.int .i64 p.t.a2) ∧
   wr.cell? ⟨b,o+j * 10+8,none⟩=some (.int .i64 p.t.a3)∧wr.cell? ⟨b,o+j * 10+9,none⟩=some (.string p.t.a)∧(spErr l[k]=0->errAt l k=gapErr p l[k]):=by
   rcases Nat.eq_zero_or_pos k with h|h
   ·subst h;exact .inl ⟨rfl,fun e=>(errAt_0 hk1).trans e⟩
   ·obtain⟨j,rfl⟩:∃ j,k=j+1:=⟨k - 1,by omega⟩
    have hj:j < l.length:=by omega
    have h1:errAt l j=0:=by
     have hjj:j < (errsOf l).length:=by rw[errs_length];exact hj
     rw[<-errs_get l j hjj]
     exact HALL.out _ (List.mem_take_iff_getElem.2 ⟨j,by rw[errs_length];omega,rfl⟩)
    have h2:=err_sp hj h1
    refine .inr ⟨j,l[j],rfl,?_,(hs _ (List.getElem_mem hj)).2,X.c1 j hj,X.c6 j hj,X.c7 j hj,X.c8 j hj,X.c9 j hj,fun h3=>?_⟩
    ·by_cases e:l[j].t.err=0
     ·exact e
     ·exfalso
      unfold spErr at h2
      split at h2
      ·cases h2
      ·split at h2
       ·rename_i h4;exact h4 h2
       ·first|exact e h2|(rw[if_pos e] at h2;exact e h2)
    ·have:=errAt_gap hk1 (by omega) h3
     simpa using this
  -- ROUND
  have HGAP:=Hy hgap
  clear hgap X
  generalize l[k]=s at *
  have q1:=run_neqv s.f zeroV
  have q2:=run_neqv s.t zeroV
  have sB:=spErr_bad (s:=s)
  have sF:=spErr_f (s:=s)
  have sT:=spErr_t (s:=s)
  have s7:=spErr_7 (s:=s)
  have s0:=spErr_0 (s:=s)
  obtain⟨hf,ht,f,t⟩:=s
  dsimp only at q1 q2 sB sF sT s7 s0 x0 x1 x2 x3 x4 x5 x6 x7 x8 x9 hz1
  generalize decide (f=zeroV)=p at *
  generalize decide (t=zeroV)=q at *
  obtain⟨f1,f2,f3,fa⟩:=f
  obtain⟨t1,t2,t3,ta⟩:=t
  dsimp only[verV,zeroV] at q1 q2
  dsimp only[V4.err,V4.ord] at sF sT s7 s0
  dsimp only at x0 x1 x2 x3 x4 x5 x6 x7 x8 x9 hz1
  generalize hS:(⟨hf,ht,⟨f1,f2,f3,fa⟩,⟨t1,t2,t3,ta⟩⟩:Sp)=S at *
  have HSS:=Hy hS
  clear hS
  generalize spErr S=r at *
  obtain⟨hz1,hz2⟩:=hz1
  by_cases hbad:(!hf&&!p||!ht&&!q)=true
  ·have HR:Hid (rngErr l=2):=Hy (by have e:=sB hbad;rw[HBAD.out (by rw[e];decide),e])
   clear sB sF sT s7 s0
   cases hf<;>cases ht<;>cases p<;>cases q<;>first
    | (exact absurd hbad (by decide))
    | (clear hbad;simp only[Bool.not_true,Bool.not_false] at q1 q2;go_wp2;go_ret;exact⟨ret_int HR.out.symm,hxw.trans Ext.au⟩)
  have hok:((hf||p)&&(ht||q))=true:=bool_ok hf p ht q hbad
  have SF:=Hy (sF hok)
  have ST:=Hy (sT hok)
  have S7:=Hy (s7 hok)
  have S0:=Hy (s0 hok)
  clear sB sF sT s7 s0 hbad
  have h1:=bool_l hf p ht q hok
  have h2:=bool_r hf p ht q hok
  clear hok
  rcases h1 with rfl|⟨rfl,rfl⟩<;>rcases h2 with rfl|⟨rfl,rfl⟩
  ·(try simp only[Bool.not_true] at q1 q2)
   go_wp2_with fail
   refine (VersionError_any _ _ [⟨f1,f2,f3,fa⟩,⟨t1,t2,t3,ta⟩] _ (hg.ext (hxw.trans ?_)).toGood ?_ ?_ (by simp)).mono ?_
   ·exact Ext.au
   ·exact VerS.two (by go_simp) (by go_simp) (by go_simp) (by go_simp) (by go_simp) (by go_simp) (by go_simp) (by go_simp)
   ·intro v hv
    simp only[List.mem_cons,List.not_mem_nil,or_false] at hv
    rcases hv with rfl|rfl
    ·exact hz1
    ·exact hz2
   rw[err_two]
   rintro e w1 ⟨rfl,hx1⟩
   have hxR:Ext wr w1:=Ext.trans Ext.au hx1
   by_cases e1:checkV f1 f2 f3 (bs fa)=0
   rotate_left
   ·rw[first_two_a e1]
    have HR:=Hy (SF.out e1)
    have HE:=Hy e1
    clear hxr
    go_wp2
    go_ret
    exact⟨ret_int (by rw[HBAD.out (by rw[HR.out];exact HE.out),HR.out]),hxw.trans hxR⟩
   by_cases e2:checkV t1 t2 t3 (bs ta)=0
   rotate_left
   ·rw[first_two_b e1]
    have HR:=Hy (ST.out e1 e2)
    have HE:=Hy e2
    clear hxr e1
    go_wp2
    go_ret
    exact⟨ret_int (by rw[HBAD.out (by rw[HR.out];exact HE.out),HR.out]),hxw.trans hxR⟩
   rw[first_two_b e1,e2]
   have E1:=Hy e1
   have E2:=Hy e2
   clear e1 e2
   have bS:=((Blk.new wr 130 #[.bool true,.bool true,.int .i64 f1,.int .i64 f2,.int .i64 f3,.string fa,.int .i64 t1,.int .i64 t2,.int .i64 t3,.string ta]).alloc (.cells #[.int .i64 f1,.int .i64 f2,.int .i64 f3,.string fa,.int .i64 t1,.int .i64 t2,.int .i64 t3,.string ta] 23)).ext hx1
   have bB:=((hB.alloc _).alloc _).ext hx1
   clear x0 x1 x2 x3 x4 x5 x6 x7 x8 x9 hx1 q1 q2
   have sc:=bS.cell
   have sl:=bS.lt
   have bc:=bB.cell
   go_wp2_with fail
   refine (CompareOf_any f1 f2 f3 t1 t2 t3 fa ta _ (hg.ext (hxw.trans hxR)) hz1 hz2 E1.out E2.out).mono ?_
   rintro e w2 ⟨rfl,hx2⟩
   have hxR2:Ext wr w2:=hxR.trans hx2
   have bS:=bS.ext hx2
   have bB:=bB.ext hx2
   clear sc sl bc hxR hx2
   have hxR:=hxR2
   by_cases ho:0<=orderL f1 f2 f3 (bs fa) t1 t2 t3 (bs ta)
   ·have HR:=Hy (S7.out E1.out E2.out (by trivial) (by trivial) ho)
    go_wp2
    go_ret
    exact⟨ret_int (by rw[HBAD.out (by rw[HR.out];decide),HR.out]),hxw.trans hxR⟩
   have HO:=Hy ho
   have R0:=Hy (S0.out E1.out E2.out (.inr (.inr (by omega))))
   have sc:=bS.cell
   have sl:=bS.lt
   have bc:=bB.cell
   have bl:=bB.lt
   rcases HGAP.out with ⟨hk0,hz⟩|⟨j,P,rfl,hpe,hps,y1,y6,y7,y8,y9,hgp⟩
   ·subst hk0
    have HA:=Hy (HGOOD.out (hz R0.out))
    clear hz
    go_wp2_with fail
    refine wp_region_ext (by kernel_rfl) (by kernel_rfl) ?_
    repeat (first|go_big_quiet_skip|(refine wpQuiet_step (fun K hK=>?_);go_simp;first|(refine hK _ ?_;clear hK K)|(apply Exists.intro;refine⟨fun wq hwq=>?_,hK _ ?_⟩;(obtain⟨hqc,hqf⟩:=hwq.cells;have hqs:=hwq.size;(try go_simp);first|rfl|((first|rw[if_neg (by omega)]|rw[if_pos (by omega)]);(try go_simp);rfl)|((fail)));clear hK K)))
    refine wpQuiet_nil ?_
    intro wN hxN
    obtain⟨hcN,hfN⟩:=hxN.cells
    have hsN:=hxN.size
    go_wp2
    go_roundw
    case rel=>exact⟨1,by omega,rfl,HA.out,(hxr.trans hxR).trans hxN⟩
    case measure=>simp[intOf];omega
   have y1:=hxR.cell y1
   have y6:=hxR.cell y6
   have y7:=hxR.cell y7
   have y8:=hxR.cell y8
   have y9:=hxR.cell y9
   have yl:=lt_of_cell y1
   have HG:=Hy (hgp R0.out)
   have hG3:=fun h=>gap_ne (p:=P) (s:=S) (.inl h)
   have hG4:=fun h=>gap_ne (p:=P) (s:=S) (.inr (.inl h))
   have hG5:=fun h=>gap_ne (p:=P) (s:=S) (.inr (.inr h))
   have hG6:=gap_ok (p:=P) (s:=S)
   generalize gapErr P S=G at *
   obtain⟨pf,pt,g,⟨u1,u2,u3,ua⟩⟩:=P
   rw[<-HSS.out] at hG4 hG5 hG6
   dsimp only[V4.ord,V4.err] at hG3 hG4 hG5 hG6 hpe
   dsimp only at y1 y6 y7 y8 y9 hps
   have G3:=Hy hG3
   have G4:=Hy hG4
   have G5:=Hy hG5
   have G6:=Hy hG6
   have HPE:=Hy hpe
   clear hG3 hG4 hG5 hG6 hgp hpe
   have hd:decide ((0:Int) < (j:Int)+1)=true:=decide_eq_true (by omega)
   cases pt
   ·go_wp2_with fail
    have jw:IntKind.i64.wrap (j:Int)=(j:Int):=IntWalk.i64_in _ (by omega)
    have jl:(0:Int)<=(j:Int):=by omega
    have jn:(j:Int) < (n:Int):=by omega
    refine wp_region_ext (by kernel_rfl) (by kernel_rfl) ?_
    repeat (first|go_big_quiet_skip|(refine wpQuiet_step (fun K hK=>?_);go_simp;first|(refine hK _ ?_;clear hK K)|(apply Exists.intro;refine⟨fun wq hwq=>?_,hK _ ?_⟩;(obtain⟨hqc,hqf⟩:=hwq.cells;have hqs:=hwq.size;(try go_simp);first|rfl|((first|rw[if_neg (by omega)]|rw[if_pos (by omega)]);(try go_simp);rfl)|((fail)));clear hK K)))
    refine wpQuiet_nil ?_
    intro wN hxN
    obtain⟨hcN,hfN⟩:=hxN.cells
    have hsN:=hxN.size
    clear jw
    go_wp2
    go_ret
    exact⟨ret_int (HGAPB.out (HG.out.trans (G3.out (by trivial)))).symm,(hxw.trans hxR).trans hxN⟩
   go_wp2_with fail
   have jw:IntKind.i64.wrap (j:Int)=(j:Int):=IntWalk.i64_in _ (by omega)
   have jl:(0:Int)<=(j:Int):=by omega
   have jn:(j:Int) < (n:Int):=by omega
   refine wp_region_ext (by kernel_rfl) (by kernel_rfl) ?_
   repeat (first|go_big_quiet_skip|(refine wpQuiet_step (fun K hK=>?_);go_simp;first|(refine hK _ ?_;clear hK K)|(apply Exists.intro;refine⟨fun wq hwq=>?_,hK _ ?_⟩;(obtain⟨hqc,hqf⟩:=hwq.cells;have hqs:=hwq.size;(try go_simp);first|rfl|((first|rw[if_neg (by omega)]|rw[if_pos (by omega)]);(try go_simp);rfl)|((go_at_call 25;exact (CompareOf_any u1 u2 u3 f1 f2 f3 ua fa _ ((hg.ext (hxw.trans hxR)).ext hwq) hps hz1 HPE.out E1.out).mono (fun e w'' h=>⟨h.1,hwq.trans h.2⟩))));clear hK K)))
   refine wpQuiet_nil ?_
   intro wN hxN
   obtain⟨hcN,hfN⟩:=hxN.cells
   have hsN:=hxN.size
   clear jw
   by_cases ho:0<=orderL u1 u2 u3 (bs ua) f1 f2 f3 (bs fa)
   ·have HO:=Hy ho
    go_wp2
    go_ret
    exact⟨ret_int (HGAPB.out (HG.out.trans (G5.out HO.out))).symm,(hxw.trans hxR).trans hxN⟩
   ·have HO:=Hy ho
    go_wp2
    go_roundw
    case rel=>exact⟨j+1+1,by omega,by go_num,HGOOD.out (HG.out.trans (G6.out (by trivial) (by trivial) (by have:=HO.out;omega))),(hxr.trans hxR).trans hxN⟩
    case measure=>simp[intOf];omega
  ·(try simp only[Bool.not_true] at q1 q2)
   go_wp2_with fail
   refine (VersionError_any _ _ [⟨f1,f2,f3,fa⟩,⟨t1,t2,t3,ta⟩] _ (hg.ext (hxw.trans ?_)).toGood ?_ ?_ (by simp)).mono ?_
   ·exact Ext.au
   ·exact VerS.two (by go_simp) (by go_simp) (by go_simp) (by go_simp) (by go_simp) (by go_simp) (by go_simp) (by go_simp)
   ·intro v hv
    simp only[List.mem_cons,List.not_mem_nil,or_false] at hv
    rcases hv with rfl|rfl
    ·exact hz1
    ·exact hz2
   rw[err_two]
   rintro e w1 ⟨rfl,hx1⟩
   have hxR:Ext wr w1:=Ext.trans Ext.au hx1
   by_cases e1:checkV f1 f2 f3 (bs fa)=0
   rotate_left
   ·rw[first_two_a e1]
    have HR:=Hy (SF.out e1)
    have HE:=Hy e1
    clear hxr
    go_wp2
    go_ret
    exact⟨ret_int (by rw[HBAD.out (by rw[HR.out];exact HE.out),HR.out]),hxw.trans hxR⟩
   by_cases e2:checkV t1 t2 t3 (bs ta)=0
   rotate_left
   ·rw[first_two_b e1]
    have HR:=Hy (ST.out e1 e2)
    have HE:=Hy e2
    clear hxr e1
    go_wp2
    go_ret
    exact⟨ret_int (by rw[HBAD.out (by rw[HR.out];exact HE.out),HR.out]),hxw.trans hxR⟩
   rw[first_two_b e1,e2]
   have E1:=Hy e1
   have E2:=Hy e2
   clear e1 e2
   have bS:=((Blk.new wr 130 #[.bool true,.bool false,.int .i64 f1,.int .i64 f2,.int .i64 f3,.string fa,.int .i64 t1,.int .i64 t2,.int .i64 t3,.string ta]).alloc (.cells #[.int .i64 f1,.int .i64 f2,.int .i64 f3,.string fa,.int .i64 t1,.int .i64 t2,.int .i64 t3,.string ta] 23)).ext hx1
   have bB:=((hB.alloc _).alloc _).ext hx1
   clear x0 x1 x2 x3 x4 x5 x6 x7 x8 x9 hx1 q1 q2
   have R0:=Hy (S0.out E1.out E2.out (by simp))
   have sc:=bS.cell
   have sl:=bS.lt
   have bc:=bB.cell
   have bl:=bB.lt
   rcases HGAP.out with ⟨hk0,hz⟩|⟨j,P,rfl,hpe,hps,y1,y6,y7,y8,y9,hgp⟩
   ·subst hk0
    have HA:=Hy (HGOOD.out (hz R0.out))
    clear hz
    go_wp2_with fail
    refine wp_region_ext (by kernel_rfl) (by kernel_rfl) ?_
    repeat (first|go_big_quiet_skip|(refine wpQuiet_step (fun K hK=>?_);go_simp;first|(refine hK _ ?_;clear hK K)|(apply Exists.intro;refine⟨fun wq hwq=>?_,hK _ ?_⟩;(obtain⟨hqc,hqf⟩:=hwq.cells;have hqs:=hwq.size;(try go_simp);first|rfl|((first|rw[if_neg (by omega)]|rw[if_pos (by omega)]);(try go_simp);rfl)|((fail)));clear hK K)))
    refine wpQuiet_nil ?_
    intro wN hxN
    obtain⟨hcN,hfN⟩:=hxN.cells
    have hsN:=hxN.size
    go_wp2
    go_roundw
    case rel=>exact⟨1,by omega,rfl,HA.out,(hxr.trans hxR).trans hxN⟩
    case measure=>simp[intOf];omega
   have y1:=hxR.cell y1
   have y6:=hxR.cell y6
   have y7:=hxR.cell y7
   have y8:=hxR.cell y8
   have y9:=hxR.cell y9
   have yl:=lt_of_cell y1
   have HG:=Hy (hgp R0.out)
   have hG3:=fun h=>gap_ne (p:=P) (s:=S) (.inl h)
   have hG4:=fun h=>gap_ne (p:=P) (s:=S) (.inr (.inl h))
   have hG5:=fun h=>gap_ne (p:=P) (s:=S) (.inr (.inr h))
   have hG6:=gap_ok (p:=P) (s:=S)
   generalize gapErr P S=G at *
   obtain⟨pf,pt,g,⟨u1,u2,u3,ua⟩⟩:=P
   rw[<-HSS.out] at hG4 hG5 hG6
   dsimp only[V4.ord,V4.err] at hG3 hG4 hG5 hG6 hpe
   dsimp only at y1 y6 y7 y8 y9 hps
   have G3:=Hy hG3
   have G4:=Hy hG4
   have G5:=Hy hG5
   have G6:=Hy hG6
   have HPE:=Hy hpe
   clear hG3 hG4 hG5 hG6 hgp hpe
   have hd:decide ((0:Int) < (j:Int)+1)=true:=decide_eq_true (by omega)
   cases pt
   ·go_wp2_with fail
    have jw:IntKind.i64.wrap (j:Int)=(j:Int):=IntWalk.i64_in _ (by omega)
    have jl:(0:Int)<=(j:Int):=by omega
    have jn:(j:Int) < (n:Int):=by omega
    refine wp_region_ext (by kernel_rfl) (by kernel_rfl) ?_
    repeat (first|go_big_quiet_skip|(refine wpQuiet_step (fun K hK=>?_);go_simp;first|(refine hK _ ?_;clear hK K)|(apply Exists.intro;refine⟨fun wq hwq=>?_,hK _ ?_⟩;(obtain⟨hqc,hqf⟩:=hwq.cells;have hqs:=hwq.size;(try go_simp);first|rfl|((first|rw[if_neg (by omega)]|rw[if_pos (by omega)]);(try go_simp);rfl)|((fail)));clear hK K)))
    refine wpQuiet_nil ?_
    intro wN hxN
    obtain⟨hcN,hfN⟩:=hxN.cells
    have hsN:=hxN.size
    clear jw
    go_wp2
    go_ret
    exact⟨ret_int (HGAPB.out (HG.out.trans (G3.out (by trivial)))).symm,(hxw.trans hxR).trans hxN⟩
   go_wp2_with fail
   have jw:IntKind.i64.wrap (j:Int)=(j:Int):=IntWalk.i64_in _ (by omega)
   have jl:(0:Int)<=(j:Int):=by omega
   have jn:(j:Int) < (n:Int):=by omega
   refine wp_region_ext (by kernel_rfl) (by kernel_rfl) ?_
   repeat (first|go_big_quiet_skip|(refine wpQuiet_step (fun K hK=>?_);go_simp;first|(refine hK _ ?_;clear hK K)|(apply Exists.intro;refine⟨fun wq hwq=>?_,hK _ ?_⟩;(obtain⟨hqc,hqf⟩:=hwq.cells;have hqs:=hwq.size;(try go_simp);first|rfl|((first|rw[if_neg (by omega)]|rw[if_pos (by omega)]);(try go_simp);rfl)|((go_at_call 25;exact (CompareOf_any u1 u2 u3 f1 f2 f3 ua fa _ ((hg.ext (hxw.trans hxR)).ext hwq) hps hz1 HPE.out E1.out).mono (fun e w'' h=>⟨h.1,hwq.trans h.2⟩))));clear hK K)))
   refine wpQuiet_nil ?_
   intro wN hxN
   obtain⟨hcN,hfN⟩:=hxN.cells
   have hsN:=hxN.size
   clear jw
   by_cases ho:0<=orderL u1 u2 u3 (bs ua) f1 f2 f3 (bs fa)
   ·have HO:=Hy ho
    go_wp2
    go_ret
    exact⟨ret_int (HGAPB.out (HG.out.trans (G5.out HO.out))).symm,(hxw.trans hxR).trans hxN⟩
   ·have HO:=Hy ho
    go_wp2
    go_roundw
    case rel=>exact⟨j+1+1,by omega,by go_num,HGOOD.out (HG.out.trans (G6.out (by trivial) (by trivial) (by have:=HO.out;omega))),(hxr.trans hxR).trans hxN⟩
    case measure=>simp[intOf];omega
  ·(try simp only[Bool.not_true] at q1 q2)
   go_wp2_with fail
   refine (VersionError_any _ _ [⟨f1,f2,f3,fa⟩,⟨t1,t2,t3,ta⟩] _ (hg.ext (hxw.trans ?_)).toGood ?_ ?_ (by simp)).mono ?_
   ·exact Ext.au
   ·exact VerS.two (by go_simp) (by go_simp) (by go_simp) (by go_simp) (by go_simp) (by go_simp) (by go_simp) (by go_simp)
   ·intro v hv
    simp only[List.mem_cons,List.not_mem_nil,or_false] at hv
    rcases hv with rfl|rfl
    ·exact hz1
    ·exact hz2
   rw[err_two]
   rintro e w1 ⟨rfl,hx1⟩
   have hxR:Ext wr w1:=Ext.trans Ext.au hx1
   by_cases e1:checkV f1 f2 f3 (bs fa)=0
   rotate_left
   ·rw[first_two_a e1]
    have HR:=Hy (SF.out e1)
    have HE:=Hy e1
    clear hxr
    go_wp2
    go_ret
    exact⟨ret_int (by rw[HBAD.out (by rw[HR.out];exact HE.out),HR.out]),hxw.trans hxR⟩
   by_cases e2:checkV t1 t2 t3 (bs ta)=0
   rotate_left
   ·rw[first_two_b e1]
    have HR:=Hy (ST.out e1 e2)
    have HE:=Hy e2
    clear hxr e1
    go_wp2
    go_ret
    exact⟨ret_int (by rw[HBAD.out (by rw[HR.out];exact HE.out),HR.out]),hxw.trans hxR⟩
   rw[first_two_b e1,e2]
   have E1:=Hy e1
   have E2:=Hy e2
   clear e1 e2
   have bS:=((Blk.new wr 130 #[.bool false,.bool true,.int .i64 f1,.int .i64 f2,.int .i64 f3,.string fa,.int .i64 t1,.int .i64 t2,.int .i64 t3,.string ta]).alloc (.cells #[.int .i64 f1,.int .i64 f2,.int .i64 f3,.string fa,.int .i64 t1,.int .i64 t2,.int .i64 t3,.string ta] 23)).ext hx1
   have bB:=((hB.alloc _).alloc _).ext hx1
   clear x0 x1 x2 x3 x4 x5 x6 x7 x8 x9 hx1 q1 q2
   have R0:=Hy (S0.out E1.out E2.out (by simp))
   have sc:=bS.cell
   have sl:=bS.lt
   have bc:=bB.cell
   have bl:=bB.lt
   rcases HGAP.out with ⟨hk0,hz⟩|⟨j,P,rfl,hpe,hps,y1,y6,y7,y8,y9,hgp⟩
   ·subst hk0
    have HA:=Hy (HGOOD.out (hz R0.out))
    clear hz
    go_wp2_with fail
    refine wp_region_ext (by kernel_rfl) (by kernel_rfl) ?_
    repeat (first|go_big_quiet_skip|(refine wpQuiet_step (fun K hK=>?_);go_simp;first|(refine hK _ ?_;clear hK K)|(apply Exists.intro;refine⟨fun wq hwq=>?_,hK _ ?_⟩;(obtain⟨hqc,hqf⟩:=hwq.cells;have hqs:=hwq.size;(try go_simp);first|rfl|((first|rw[if_neg (by omega)]|rw[if_pos (by omega)]);(try go_simp);rfl)|((fail)));clear hK K)))
    refine wpQuiet_nil ?_
    intro wN hxN
    obtain⟨hcN,hfN⟩:=hxN.cells
    have hsN:=hxN.size
    go_wp2
    go_roundw
    case rel=>exact⟨1,by omega,rfl,HA.out,(hxr.trans hxR).trans hxN⟩
    case measure=>simp[intOf];omega
   have y1:=hxR.cell y1
   have y6:=hxR.cell y6
   have y7:=hxR.cell y7
   have y8:=hxR.cell y8
   have y9:=hxR.cell y9
   have yl:=lt_of_cell y1
   have HG:=Hy (hgp R0.out)
   have hG3:=fun h=>gap_ne (p:=P) (s:=S) (.inl h)
   have hG4:=fun h=>gap_ne (p:=P) (s:=S) (.inr (.inl h))
   have hG5:=fun h=>gap_ne (p:=P) (s:=S) (.inr (.inr h))
   have hG6:=gap_ok (p:=P) (s:=S)
   generalize gapErr P S=G at *
   obtain⟨pf,pt,g,⟨u1,u2,u3,ua⟩⟩:=P
   rw[<-HSS.out] at hG4 hG5 hG6
   dsimp only[V4.ord,V4.err] at hG3 hG4 hG5 hG6 hpe
   dsimp only at y1 y6 y7 y8 y9 hps
   have G3:=Hy hG3
   have G4:=Hy hG4
   have G5:=Hy hG5
   have G6:=Hy hG6
   have HPE:=Hy hpe
   clear hG3 hG4 hG5 hG6 hgp hpe
   have hd:decide ((0:Int) < (j:Int)+1)=true:=decide_eq_true (by omega)
   cases pt
   ·go_wp2_with fail
    have jw:IntKind.i64.wrap (j:Int)=(j:Int):=IntWalk.i64_in _ (by omega)
    have jl:(0:Int)<=(j:Int):=by omega
    have jn:(j:Int) < (n:Int):=by omega
    refine wp_region_ext (by kernel_rfl) (by kernel_rfl) ?_
    repeat (first|go_big_quiet_skip|(refine wpQuiet_step (fun K hK=>?_);go_simp;first|(refine hK _ ?_;clear hK K)|(apply Exists.intro;refine⟨fun wq hwq=>?_,hK _ ?_⟩;(obtain⟨hqc,hqf⟩:=hwq.cells;have hqs:=hwq.size;(try go_simp);first|rfl|((first|rw[if_neg (by omega)]|rw[if_pos (by omega)]);(try go_simp);rfl)|((fail)));clear hK K)))
    refine wpQuiet_nil ?_
    intro wN hxN
    obtain⟨hcN,hfN⟩:=hxN.cells
    have hsN:=hxN.size
    clear jw
    go_wp2
    go_ret
    exact⟨ret_int (HGAPB.out (HG.out.trans (G3.out (by trivial)))).symm,(hxw.trans hxR).trans hxN⟩
   go_wp2_with fail
   have jw:IntKind.i64.wrap (j:Int)=(j:Int):=IntWalk.i64_in _ (by omega)
   have jl:(0:Int)<=(j:Int):=by omega
   have jn:(j:Int) < (n:Int):=by omega
   refine wp_region_ext (by kernel_rfl) (by kernel_rfl) ?_
   repeat (first|go_big_quiet_skip|(refine wpQuiet_step (fun K hK=>?_);go_simp;first|(refine hK _ ?_;clear hK K)|(apply Exists.intro;refine⟨fun wq hwq=>?_,hK _ ?_⟩;(obtain⟨hqc,hqf⟩:=hwq.cells;have hqs:=hwq.size;(try go_simp);first|rfl|((first|rw[if_neg (by omega)]|rw[if_pos (by omega)]);(try go_simp);rfl)|((fail)));clear hK K)))
   refine wpQuiet_nil ?_
   intro wN hxN
   obtain⟨hcN,hfN⟩:=hxN.cells
   have hsN:=hxN.size
   clear jw
   go_wp2
   go_ret
   exact⟨ret_int (HGAPB.out (HG.out.trans (G4.out (by trivial)))).symm,(hxw.trans hxR).trans hxN⟩
  ·(try simp only[Bool.not_true] at q1 q2)
   go_wp2_with fail
   refine (VersionError_any _ _ [⟨f1,f2,f3,fa⟩,⟨t1,t2,t3,ta⟩] _ (hg.ext (hxw.trans ?_)).toGood ?_ ?_ (by simp)).mono ?_
   ·exact Ext.au
   ·exact VerS.two (by go_simp) (by go_simp) (by go_simp) (by go_simp) (by go_simp) (by go_simp) (by go_simp) (by go_simp)
   ·intro v hv
    simp only[List.mem_cons,List.not_mem_nil,or_false] at hv
    rcases hv with rfl|rfl
    ·exact hz1
    ·exact hz2
   rw[err_two]
   rintro e w1 ⟨rfl,hx1⟩
   have hxR:Ext wr w1:=Ext.trans Ext.au hx1
   by_cases e1:checkV f1 f2 f3 (bs fa)=0
   rotate_left
   ·rw[first_two_a e1]
    have HR:=Hy (SF.out e1)
    have HE:=Hy e1
    clear hxr
    go_wp2
    go_ret
    exact⟨ret_int (by rw[HBAD.out (by rw[HR.out];exact HE.out),HR.out]),hxw.trans hxR⟩
   by_cases e2:checkV t1 t2 t3 (bs ta)=0
   rotate_left
   ·rw[first_two_b e1]
    have HR:=Hy (ST.out e1 e2)
    have HE:=Hy e2
    clear hxr e1
    go_wp2
    go_ret
    exact⟨ret_int (by rw[HBAD.out (by rw[HR.out];exact HE.out),HR.out]),hxw.trans hxR⟩
   rw[first_two_b e1,e2]
   have E1:=Hy e1
   have E2:=Hy e2
   clear e1 e2
   have bS:=((Blk.new wr 130 #[.bool false,.bool false,.int .i64 f1,.int .i64 f2,.int .i64 f3,.string fa,.int .i64 t1,.int .i64 t2,.int .i64 t3,.string ta]).alloc (.cells #[.int .i64 f1,.int .i64 f2,.int .i64 f3,.string fa,.int .i64 t1,.int .i64 t2,.int .i64 t3,.string ta] 23)).ext hx1
   have bB:=((hB.alloc _).alloc _).ext hx1
   clear x0 x1 x2 x3 x4 x5 x6 x7 x8 x9 hx1 q1 q2
   have R0:=Hy (S0.out E1.out E2.out (by simp))
   have sc:=bS.cell
   have sl:=bS.lt
   have bc:=bB.cell
   have bl:=bB.lt
   rcases HGAP.out with ⟨hk0,hz⟩|⟨j,P,rfl,hpe,hps,y1,y6,y7,y8,y9,hgp⟩
   ·subst hk0
    have HA:=Hy (HGOOD.out (hz R0.out))
    clear hz
    go_wp2_with fail
    refine wp_region_ext (by kernel_rfl) (by kernel_rfl) ?_
    repeat (first|go_big_quiet_skip|(refine wpQuiet_step (fun K hK=>?_);go_simp;first|(refine hK _ ?_;clear hK K)|(apply Exists.intro;refine⟨fun wq hwq=>?_,hK _ ?_⟩;(obtain⟨hqc,hqf⟩:=hwq.cells;have hqs:=hwq.size;(try go_simp);first|rfl|((first|rw[if_neg (by omega)]|rw[if_pos (by omega)]);(try go_simp);rfl)|((fail)));clear hK K)))
    refine wpQuiet_nil ?_
    intro wN hxN
    obtain⟨hcN,hfN⟩:=hxN.cells
    have hsN:=hxN.size
    go_wp2
    go_roundw
    case rel=>exact⟨1,by omega,rfl,HA.out,(hxr.trans hxR).trans hxN⟩
    case measure=>simp[intOf];omega
   have y1:=hxR.cell y1
   have y6:=hxR.cell y6
   have y7:=hxR.cell y7
   have y8:=hxR.cell y8
   have y9:=hxR.cell y9
   have yl:=lt_of_cell y1
   have HG:=Hy (hgp R0.out)
   have hG3:=fun h=>gap_ne (p:=P) (s:=S) (.inl h)
   have hG4:=fun h=>gap_ne (p:=P) (s:=S) (.inr (.inl h))
   have hG5:=fun h=>gap_ne (p:=P) (s:=S) (.inr (.inr h))
   have hG6:=gap_ok (p:=P) (s:=S)
   generalize gapErr P S=G at *
   obtain⟨pf,pt,g,⟨u1,u2,u3,ua⟩⟩:=P
   rw[<-HSS.out] at hG4 hG5 hG6
   dsimp only[V4.ord,V4.err] at hG3 hG4 hG5 hG6 hpe
   dsimp only at y1 y6 y7 y8 y9 hps
   have G3:=Hy hG3
   have G4:=Hy hG4
   have G5:=Hy hG5
   have G6:=Hy hG6
   have HPE:=Hy hpe
   clear hG3 hG4 hG5 hG6 hgp hpe
   have hd:decide ((0:Int) < (j:Int)+1)=true:=decide_eq_true (by omega)
   cases pt
   ·go_wp2_with fail
    have jw:IntKind.i64.wrap (j:Int)=(j:Int):=IntWalk.i64_in _ (by omega)
    have jl:(0:Int)<=(j:Int):=by omega
    have jn:(j:Int) < (n:Int):=by omega
    refine wp_region_ext (by kernel_rfl) (by kernel_rfl) ?_
    repeat (first|go_big_quiet_skip|(refine wpQuiet_step (fun K hK=>?_);go_simp;first|(refine hK _ ?_;clear hK K)|(apply Exists.intro;refine⟨fun wq hwq=>?_,hK _ ?_⟩;(obtain⟨hqc,hqf⟩:=hwq.cells;have hqs:=hwq.size;(try go_simp);first|rfl|((first|rw[if_neg (by omega)]|rw[if_pos (by omega)]);(try go_simp);rfl)|((fail)));clear hK K)))
    refine wpQuiet_nil ?_
    intro wN hxN
    obtain⟨hcN,hfN⟩:=hxN.cells
    have hsN:=hxN.size
    clear jw
    go_wp2
    go_ret
    exact⟨ret_int (HGAPB.out (HG.out.trans (G3.out (by trivial)))).symm,(hxw.trans hxR).trans hxN⟩
   go_wp2_with fail
   have jw:IntKind.i64.wrap (j:Int)=(j:Int):=IntWalk.i64_in _ (by omega)
   have jl:(0:Int)<=(j:Int):=by omega
   have jn:(j:Int) < (n:Int):=by omega
   refine wp_region_ext (by kernel_rfl) (by kernel_rfl) ?_
   repeat (first|go_big_quiet_skip|(refine wpQuiet_step (fun K hK=>?_);go_simp;first|(refine hK _ ?_;clear hK K)|(apply Exists.intro;refine⟨fun wq hwq=>?_,hK _ ?_⟩;(obtain⟨hqc,hqf⟩:=hwq.cells;have hqs:=hwq.size;(try go_simp);first|rfl|((first|rw[if_neg (by omega)]|rw[if_pos (by omega)]);(try go_simp);rfl)|((fail)));clear hK K)))
   refine wpQuiet_nil ?_
   intro wN hxN
   obtain⟨hcN,hfN⟩:=hxN.cells
   have hsN:=hxN.size
   clear jw
   go_wp2
   go_ret
   exact⟨ret_int (HGAPB.out (HG.out.trans (G4.out (by trivial)))).symm,(hxw.trans hxR).trans hxN⟩
end Go.Proofs.YtmnafaaijglnfaaGreatDoor
