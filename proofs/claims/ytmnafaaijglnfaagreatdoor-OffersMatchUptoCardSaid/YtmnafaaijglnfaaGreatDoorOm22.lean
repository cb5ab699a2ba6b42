/- Contract of outref2.HasOf. -/
import Derived.Test.YtmnafaaijglnfaaGreatDoorOm20
import Derived.Laws.EntriesVeiled
namespace Go.Proofs.YtmnafaaijglnfaaGreatDoor
open Go.RowKit
set_option maxHeartbeats 8000000 in
theorem near_anyR (h:Bool) (e:V4) (v1 v2 v3:Int) (va:ByteArray) (gv:Nat) (w:World) (bV:Blk w gv 23 #[.int .i64 v1,.int .i64 v2,.int .i64 v3,.string va]) :
 Calls Tryz.prog 206 #[.bool h,verV e,.pointer (some ⟨gv,0,none⟩)] w fun r w'=>r=.returned (.bool (nearL h e ⟨v1,v2,v3,va⟩))∧Ext w w':=by
 obtain⟨e1,e2,e3,ea⟩:=e
 have hN:nearL h ⟨e1,e2,e3,ea⟩ ⟨v1,v2,v3,va⟩=(h&&!decide (ea.size=0)&&decide (e1=v1)&&decide (e2=v2)&&decide (e3=v3)):=rfl
 rw[hN]
 clear hN
 have bV2:=bV.alloc (.cells #[.int .i64 e1,.int .i64 e2,.int .i64 e3,.string ea] 23)
 have cV:=bV2.cell;have lV:=bV2.lt
 cases h
 ·go_enter Tryz.func206,Tryz.ntmps206
  go_wp2
  go_ret
  exact⟨rfl,Ext.au⟩
 rcases Nat.eq_zero_or_pos ea.size with h0|h0
 ·have hl:=emp_of_size h0
  have hb:=emp_bool h0
  have H0:=Hy h0
  clear h0
  go_enter Tryz.func206,Tryz.ntmps206
  go_wp2
  go_ret
  refine⟨ret_bool ?_,Ext.au⟩
  simp[H0.out]
 ·have hl:=nemp_of_size h0
  have hb:=nemp_bool h0
  have H0:=Hy (show ¬ ea.size=0 by omega)
  by_cases q1:e1=v1
  ·subst q1
   by_cases q2:e2=v2
   ·subst q2
    go_enter Tryz.func206,Tryz.ntmps206
    go_wp2
    go_ret
    refine⟨ret_bool ?_,Ext.au⟩
    simp[H0.out]
    by_cases q3:e3=v3<;>simp[q3]
   ·go_enter Tryz.func206,Tryz.ntmps206
    go_wp2
    go_ret
    refine⟨ret_bool ?_,Ext.au⟩
    simp[q2]
  ·go_enter Tryz.func206,Tryz.ntmps206
   go_wp2
   go_ret
   refine⟨ret_bool ?_,Ext.au⟩
   simp[q1]
def hitD (al:Bool) (s:Sp) (v:V4):Bool:=insideL s v&&(decide (v.a.size=0)||al||nearL s.hf s.f v||nearL s.ht s.t v)
set_option maxHeartbeats 8000000 in
set_option maxRecDepth 100000 in
theorem hit_any (al:Bool) (s:Sp) (v:V4) (gv ga gn:Nat) (w:World) (hg:GoodN w) (h1:s.f.a.size<=2097152) (h2:s.t.a.size<=2097152) (h3:v.a.size<=2097152) (e1:s.f.err=0) (e2:s.t.err=0) (e3:v.err=0)
 (bV:Blk w gv 23 #[.int .i64 v.a1,.int .i64 v.a2,.int .i64 v.a3,.string v.a]) (bA:w.cell? ⟨ga,0,none⟩=some (.bool al)) (bN:w.cell? ⟨gn,0,none⟩=some (.func (.func 206) #[] #[.pointer (some ⟨gv,0,none⟩)])) :
 Calls Tryz.prog 208 #[spV s,.pointer (some ⟨gv,0,none⟩),.pointer (some ⟨ga,0,none⟩),.pointer (some ⟨gn,0,none⟩)] w fun e w'=>e=.returned (.bool (hitD al s v))∧Ext w w':=by
 have cI:=fun W (h:Ext w W)=>Inside_any s v W (hg.ext h) h1 h2 h3 e1 e2 e3
 have cN1:=fun W (h:Ext w W)=>near_anyR s.hf s.f v.a1 v.a2 v.a3 v.a gv W (bV.ext h)
 have cN2:=fun W (h:Ext w W)=>near_anyR s.ht s.t v.a1 v.a2 v.a3 v.a gv W (bV.ext h)
 have hH:hitD al s v=(insideL s v&&(decide (v.a.size=0)||al||nearL s.hf s.f v||nearL s.ht s.t v)):=rfl
 rw[hH]
 clear hH
 rw[show (⟨v.a1,v.a2,v.a3,v.a⟩:V4)=v from rfl] at cN1 cN2
 generalize insideL s v=I at *
 generalize nearL s.hf s.f v=N1 at *
 generalize nearL s.ht s.t v=N2 at *
 obtain⟨hf,ht,⟨f1,f2,f3,fa⟩,⟨t1,t2,t3,ta⟩⟩:=s
 obtain⟨v1,v2,v3,va⟩:=v
 dsimp only[spV,verV] at cI cN1 cN2 bV ⊢
 have CI:=Hy cI;have CN1:=Hy cN1;have CN2:=Hy cN2
 clear cI cN1 cN2 e1 e2 e3
 have hx0:Ext w (w.alloc (.cells #[.bool hf,.bool ht,.int .i64 f1,.int .i64 f2,.int .i64 f3,.string fa,.int .i64 t1,.int .i64 t2,.int .i64 t3,.string ta] 130)):=(Ext.refl w).alloc _
 have bS:=Blk.new w 130 #[.bool hf,.bool ht,.int .i64 f1,.int .i64 f2,.int .i64 f3,.string fa,.int .i64 t1,.int .i64 t2,.int .i64 t3,.string ta]
 have bV0:=bV.alloc (.cells #[.bool hf,.bool ht,.int .i64 f1,.int .i64 f2,.int .i64 f3,.string fa,.int .i64 t1,.int .i64 t2,.int .i64 t3,.string ta] 130)
 have cV0:=bV0.cell;have lV0:=bV0.lt
 have lA:=lt_of_cell bA;have lN:=lt_of_cell bN;have lV:=bV.lt
 go_enter Tryz.func208,Tryz.ntmps208
 go_wp2_with fail
 refine (CI.out _ hx0).mono ?_
 rintro e w1 ⟨rfl,hx1⟩
 have hxw:=hx0.trans hx1
 have bS1:=bS.ext hx1;have bV1:=bV.ext hxw
 have cS1:=bS1.cell;have lS1:=bS1.lt;have cV1:=bV1.cell;have lV1:=bV1.lt
 have a1:=hxw.cell bA;have n1:=hxw.cell bN
 clear cV0 lV0
 cases I
 ·go_wp2
  go_ret
  exact⟨rfl,hxw⟩
 rcases Nat.eq_zero_or_pos va.size with h0|h0
 ·have hl:=emp_of_size h0
  have hb:=emp_bool h0
  have H0:=Hy h0
  clear h0
  go_wp2
  go_ret
  refine⟨ret_bool ?_,hxw⟩
  simp[H0.out]
 have hl:=nemp_of_size h0
 have hb:=nemp_bool h0
 have H0:=Hy (show decide (va.size=0)=false from decide_eq_false (by omega))
 cases al
 rotate_left
 ·go_wp2
  go_ret
  refine⟨ret_bool ?_,hxw⟩
  simp
 go_wp2_with fail
 refine (CN1.out _ hxw).mono ?_
 rintro e w2 ⟨rfl,hx2⟩
 have bS2:=bS1.ext hx2
 have cS2:=bS2.cell;have lS2:=bS2.lt
 have n2:=hx2.cell n1
 clear cS1 lS1 cV1 lV1 a1 n1
 cases N1
 rotate_left
 ·go_wp2
  go_ret
  refine⟨ret_bool ?_,hxw.trans hx2⟩
  simp
 go_wp2_with fail
 refine (CN2.out _ (hxw.trans hx2)).mono ?_
 rintro e w3 ⟨rfl,hx3⟩
 go_wp2
 go_ret
 refine⟨ret_bool ?_,(hxw.trans hx2).trans hx3⟩
 rw[H0.out]
 cases N2<;>rfl
theorem enters_hit:∀ xs w,Sem.run Tryz.prog (callFunc 208 xs) w=.ok (.enter 208 xs) w:=enters_of Tryz.func208 (by kernel_rfl) rfl
theorem any_same {α:Type} {p q:α->Bool} {l:List α} (h:∀ k (hk:k < l.length),p l[k]=q l[k]):l.any p=l.any q:=by
 rw[Bool.eq_iff_iff,List.any_eq_true,List.any_eq_true]
 constructor
 ·rintro ⟨s,hs,e⟩
  obtain⟨k,hk,rfl⟩:=List.mem_iff_getElem.1 hs
  exact⟨_,hs,by rw[<-h k hk];exact e⟩
 ·rintro ⟨s,hs,e⟩
  obtain⟨k,hk,rfl⟩:=List.mem_iff_getElem.1 hs
  exact⟨_,hs,by rw[h k hk];exact e⟩
theorem hasD_one {s:Sp} {v:V4}:[s].any (fun x=>hitD (!s.hf&&!s.ht) x v)=hasL [s] v:=by
 unfold hasL
 simp only[List.any_cons,List.any_nil,Bool.or_false,List.length_singleton]
 unfold hitD hitL
 simp
theorem hasD_many {l:List Sp} {v:V4} (h:l.length≠1):l.any (fun x=>hitD false x v)=hasL l v:=by
 unfold hasL
 refine any_same fun k hk=>?_
 unfold hitD hitL
 rw[decide_eq_false h]
 simp
set_option maxHeartbeats 8000000 in
set_option maxRecDepth 100000 in
theorem HasOf_any (A:Option Addr) (n c:Nat) (l:List Sp) (v:V4) (w:World) (hg:GoodN w) (hn:l.length=n) (hr:RdS w A l) (hs:SmallS l) (hl:n<=2097152) (hv:v.a.size<=2097152) (ho:rngErr l=0) (hov:v.err=0) :
 Calls Tryz.prog 136 #[.agg #[.slice A n c],verV v] w fun e w'=>e=.returned (.bool (hasL l v))∧Ext w w':=by
 have cC:=fun (al:Bool) gv ga gn W (h:Ext w W) (bV:Blk W gv 23 #[.int .i64 v.a1,.int .i64 v.a2,.int .i64 v.a3,.string v.a]) (bA:W.cell? ⟨ga,0,none⟩=some (.bool al)) (bN:W.cell? ⟨gn,0,none⟩=some (.func (.func 206) #[] #[.pointer (some ⟨gv,0,none⟩)])) =>
  ContainsFuncS_any A n c l 208 #[.pointer (some ⟨gv,0,none⟩),.pointer (some ⟨ga,0,none⟩),.pointer (some ⟨gn,0,none⟩)] (fun s=>hitD al s v) W hn (hr.ext h) hl enters_hit (fun k hk W2 h2 =>
   have he:=spErr_parts (rng_each ho hk)
   have hz:=hs l[k] (List.getElem_mem hk)
   hit_any al l[k] v gv ga gn W2 (hg.ext (h.trans h2)) hz.1 hz.2 hv he.2.2.1 he.2.2.2.1 hov (bV.ext h2) (h2.cell bA) (h2.cell bN))
 have h1:=fun h=>hasD_many (l:=l) (v:=v) h
 have h2:∀ s,l=[s]->l.any (fun x=>hitD (!s.hf&&!s.ht) x v)=hasL l v:=fun s e=>by rw[e];exact hasD_one
 generalize hasL l v=R at *
 have CC:=Hy cC;have H1:=Hy h1;have H2:=Hy h2;have HN:=Hy hn
 clear cC h1 h2 hn ho hov hs
 obtain⟨v1,v2,v3,va⟩:=v
 dsimp only[verV] at CC hv ⊢
 by_cases hone:n=1
 ·subst hone
  obtain⟨s,hs⟩:=List.length_eq_one_iff.1 HN.out
  obtain⟨b,o,rfl,hX⟩:=hr (fun e=>by rw[hs] at e;cases e)
  have x0:=hX.c0 0 (by rw[HN.out];decide);have x1:=hX.c1 0 (by rw[HN.out];decide)
  have HR:=Hy (H2.out s hs)
  have hs0:l[0]'(by rw[HN.out];decide)=s:=by simp[hs]
  rw[hs0,Nat.zero_mul,Nat.add_zero] at x0 x1
  have l0:=lt_of_cell x0
  clear hX hs0 H1 H2
  have CC2:=Hy (fun gv ga gn W h bV bA bN=>CC.out (!s.hf&&!s.ht) gv ga gn W h bV bA bN)
  simp only[HR.out] at CC2
  clear HR hs hr CC
  generalize s.hf=hf at *
  generalize s.ht=ht at *
  have W0:=Blk.new (w.alloc (.cells #[.slice (some ⟨b,o,none⟩) 1 c] 42)) 23 #[.int .i64 v1,.int .i64 v2,.int .i64 v3,.string va]
  rw[World.size_alloc] at W0
  have hF:=(fun T=>Blk.new ((w.alloc (.cells #[.slice (some ⟨b,o,none⟩) 1 c] 42)).alloc (.cells #[.int .i64 v1,.int .i64 v2,.int .i64 v3,.string va] 23)) T #[(.func (.func 206) #[] #[.pointer (some ⟨w.heap.size+1,0,none⟩)])])
  simp only[World.size_alloc] at hF
  have l1:b < w.heap.size+1:=by omega
  have l2:b < w.heap.size+1+1:=by omega
  have l3:b < w.heap.size+1+1+1:=by omega
  cases hf<;>cases ht
  all_goals
   go_enter Tryz.func136,Tryz.ntmps136
   go_wp2_with fail
   refine (CC2.out (w.heap.size+1) (w.heap.size+1+1+1) (w.heap.size+1+1) _ Ext.au ((W0.alloc _).alloc _) ?_ ((((hF _).alloc _).cell 0).trans rfl)).mono ?_
   ·rw[World.cell?_alloc_at _ _ _ _ (by simp[World.size_alloc])]
    rfl
   rintro e w1 ⟨rfl,hx1⟩
   go_wp2
   go_ret
   exact⟨rfl,Ext.trans Ext.au hx1⟩
 ·have hne:((n:Int)==1)=false:=by rw[beq_eq_false_iff_ne];omega
  have HR:=Hy (H1.out (by rw[HN.out];exact hone))
  have CC2:=Hy (fun gv ga gn W h bV bA bN=>CC.out false gv ga gn W h bV bA bN)
  simp only[HR.out] at CC2
  clear H1 H2 HR CC hr
  have W0:=Blk.new (w.alloc (.cells #[.slice A n c] 42)) 23 #[.int .i64 v1,.int .i64 v2,.int .i64 v3,.string va]
  rw[World.size_alloc] at W0
  have hF:=(fun T=>Blk.new ((w.alloc (.cells #[.slice A n c] 42)).alloc (.cells #[.int .i64 v1,.int .i64 v2,.int .i64 v3,.string va] 23)) T #[(.func (.func 206) #[] #[.pointer (some ⟨w.heap.size+1,0,none⟩)])])
  simp only[World.size_alloc] at hF
  go_enter Tryz.func136,Tryz.ntmps136
  go_wp2_with fail
  refine (CC2.out (w.heap.size+1) (w.heap.size+1+1+1) (w.heap.size+1+1) _ Ext.au ((W0.alloc _).alloc _) ?_ ((((hF _).alloc _).cell 0).trans rfl)).mono ?_
  ·rw[World.cell?_alloc_at _ _ _ _ (by simp[World.size_alloc])]
   rfl
  rintro e w1 ⟨rfl,hx1⟩
  go_wp2
  go_ret
  exact⟨rfl,Ext.trans Ext.au hx1⟩
end Go.Proofs.YtmnafaaijglnfaaGreatDoor
