/- Contracts of ver.CheckCond and outref2.CondError. -/
import Derived.Test.YtmnafaaijglnfaaGreatDoorMg29
namespace Go.Proofs.YtmnafaaijglnfaaGreatDoor
open Go.RowKit
def step1 (_:Cd) (lev:Nat) (s:Int × Bool):(Int × Bool) × Bool:=((IntKind.i64.wrap (s.1+1),s.2||decide (20 < lev)),decide (IntKind.i64.wrap (s.1+1)<=100))
def step2 (c:Cd) (_:Nat) (_:Int):Int × Bool:=(partC c,partC c==0)
def step3 (_:Cd) (lev:Nat) (s:Int × Int):(Int × Int) × Bool:=((IntKind.i64.wrap (s.1+1),max s.2 (lev:Int)),true)
def step4 (c:Cd) (_:Nat) (e:Int):Int × Bool:=(if e=0 then partC c else e,true)
theorem wrap_small {p:Int} (h0:0<=p) (h1:p<=1000000000):IntKind.i64.wrap (p+1)=p+1:=by rw[IntKind.wrap_i64];omega
theorem run1_small:∀ (l:List (Cd × Nat)) (p:Int) (d:Bool),0<=p->p+l.length<=100->runP step1 l (p,d)=((p+l.length,d||l.any fun q=>decide (20 < q.2)),true)
 | [],p,d,_,_=>by simp[runP]
 | q::r,p,d,h0,h1=>by
   simp only[List.length_cons] at h1
   have hw:=wrap_small h0 (by omega)
   unfold runP
   simp only[step1,hw]
   rw[if_pos (by rw[decide_eq_true_eq];omega),run1_small r (p+1) _ (by omega) (by omega)]
   simp only[List.length_cons,List.any_cons,Bool.or_assoc,Prod.mk.injEq,and_true]
   omega
theorem run1_large:∀ (l:List (Cd × Nat)) (p:Int) (d:Bool),0<=p->p<=100->100 < p+l.length->(runP step1 l (p,d)).1.1=101
 | [],p,d,_,h1,h2=>by simp at h2;omega
 | q::r,p,d,h0,h1,h2=>by
   simp only[List.length_cons] at h2
   have hw:=wrap_small h0 (by omega)
   unfold runP
   simp only[step1,hw]
   by_cases h:p+1<=100
   ·rw[if_pos (by rw[decide_eq_true_eq];exact h)]
    exact run1_large r (p+1) _ (by omega) h (by omega)
   ·rw[if_neg (by rw[decide_eq_true_eq];exact h)]
    show p+1=101
    omega
theorem run2_first:∀ (l:List (Cd × Nat)),(runP step2 l 0).1=firstErr l
 | []=>rfl
 | q::r=>by
   have h:∀ z,(runP step2 r z).1=if r=[] then z else firstErr r:=fun z=>by
    cases r with
    | nil=>rfl
    | cons a b=>rw[if_neg (by simp),<-run2_first (a::b)];rfl
   unfold runP firstErr
   simp only[step2,beq_iff_eq]
   by_cases hz:partC q.1=0
   ·rw[if_pos hz,if_pos hz,hz,run2_first r]
   ·rw[if_neg hz,if_neg hz]
theorem run3_all:∀ (l:List (Cd × Nat)) (m d:Int),0<=m->m+l.length<=1000000000->(runP step3 l (m,d)).1.1=m+l.length∧((20 < (runP step3 l (m,d)).1.2)↔(20 < d∨(l.any fun q=>decide (20 < q.2))=true))
 | [],m,d,_,_=>by simp[runP]
 | q::r,m,d,h0,h1=>by
   simp only[List.length_cons] at h1
   have hw:=wrap_small h0 (by omega)
   unfold runP
   simp only[step3,hw,if_true]
   obtain⟨a,b⟩:=run3_all r (m+1) (max d (q.2:Int)) (by omega) (by omega)
   refine⟨by rw[a,List.length_cons];omega,?_⟩
   rw[b,List.any_cons,Bool.or_eq_true,decide_eq_true_eq]
   constructor
   ·rintro (h|h)
    ·by_cases h2:20 < q.2
     ·exact .inr (.inl h2)
     ·exact .inl (by omega)
    ·exact .inr (.inr h)
   ·rintro (h|h|h)
    ·exact .inl (by omega)
    ·exact .inl (by omega)
    ·exact .inr h
theorem run4_first:∀ (l:List (Cd × Nat)) (e:Int),(runP step4 l e).1=if e=0 then firstErr l else e
 | [],e=>by
   unfold runP firstErr
   split
   ·assumption
   ·rfl
 | q::r,e=>by
   unfold runP
   simp only[step4,if_true]
   rw[run4_first r]
   by_cases he:e=0
   ·rw[if_pos he,if_pos he]
    rfl
   ·rw[if_neg he,if_neg he,if_neg he]
theorem visit1_any (g1 g2:Nat) (hne:g1≠g2) (c:Cd) (v:Value) (lev:Nat) (s:Int × Bool) (w:World) (P:Nat->Prop) (hlev:lev<=1000000000) (hc:CdIn P w c v) (h1:Blk w g1 3 #[.int .i64 s.1]) (h2:Blk w g2 4 #[.bool s.2]) :
 Calls Tryz.prog 172 #[v,.int .i64 lev,.pointer (some ⟨g1,0,none⟩),.pointer (some ⟨g2,0,none⟩)] w fun e w'=>e=.returned (.bool (step1 c lev s).2)∧(Blk w' g1 3 #[.int .i64 (step1 c lev s).1.1]∧Blk w' g2 4 #[.bool (step1 c lev s).1.2])∧ExtC (fun k=>k=g1∨k=g2) w w':=by
 obtain⟨k,n,x,A,m,cp,rfl⟩:=hc.cells
 obtain⟨p,d⟩:=s
 have c1:=h1.cell;have f1:=h1.free;have l1:=h1.lt
 have c2:=h2.cell;have f2:=h2.free;have l2:=h2.lt
 have H1:=Hy h1;have H2:=Hy h2
 unfold step1
 dsimp only at *
 clear hc h1 h2
 have hd2:decide ((20:Int) < (lev:Int))=decide (20 < lev):=by
  by_cases h:20 < lev
  ·rw[decide_eq_true h,decide_eq_true (by omega)]
  ·rw[decide_eq_false h,decide_eq_false (by omega)]
 rw[<-hd2]
 generalize hq:IntKind.i64.wrap (p+1)=q
 clear hd2
 have hfin:=fun (b:Bool) (o:Obj)=>(⟨⟨((H1.out.set 0 (.int .i64 q)).far (p:=⟨g2,0,none⟩) hne (.bool b)).alloc o,((H2.out.far (p:=⟨g1,0,none⟩) (Ne.symm hne) (.int .i64 q)).set 0 (.bool b)).alloc o⟩,(((ExtC.refl (fun k=>k=g1∨k=g2) w).set (p:=⟨g1,0,none⟩) (.inl (.inl rfl)) (.int .i64 q)).set (p:=⟨g2,0,none⟩) (.inl (.inr rfl)) (.bool b)).alloc o⟩:(_∧_)∧_)
 have HF:=Hy hfin
 clear hfin
 cases d
 ·go_enter Tryz.func172,Tryz.ntmps172
  go_wp2
  go_ret
  exact⟨rfl,HF.out _ _⟩
 ·go_enter Tryz.func172,Tryz.ntmps172
  go_wp2
  go_ret
  exact⟨rfl,HF.out _ _⟩
theorem visit2_any (g3:Nat) (c:Cd) (v:Value) (lev:Nat) (s:Int) (w:World) (P:Nat->Prop) (hg:GoodN w) (hsm:SmallC c) (hc:CdIn P w c v) (h3:Blk w g3 24 #[.int .i64 s]) :
 Calls Tryz.prog 173 #[v,.int .i64 lev,.pointer (some ⟨g3,0,none⟩)] w fun e w'=>e=.returned (.bool (step2 c lev s).2)∧Blk w' g3 24 #[.int .i64 (step2 c lev s).1]∧ExtC (fun k=>k=g3) w w':=by
 cases hc with
 | mk k n x l A cp b o u0 u1 u2 u3 hA hb h0 h1 h2 h3' hr =>
   obtain⟨_,_,_,_,hsn,hsx,hsl,hsr⟩:=hsm
   have hb3:=h3.alloc (.cells #[.int .i64 k,.string n,.string x,.slice A l.length cp] 52)
   have hx0:Ext w (w.alloc (.cells #[.int .i64 k,.string n,.string x,.slice A l.length cp] 52)):=(Ext.refl w).alloc _
   have hp:=partFault_any k n x A l.length cp _ (hg.ext hx0) hsn hsx hsl
   unfold step2 partC
   dsimp only[Cd.kind,Cd.name,Cd.value,Cd.args]
   generalize partErr k (bs n) (bs x) l.length=E at *
   have HP:=Hy hp
   clear hp h0 h1 h2 h3' hr hA hb h3
   go_enter Tryz.func173,Tryz.ntmps173
   go_wp2_with fail
   refine HP.out.mono ?_
   rintro e w1 ⟨rfl,hx1⟩
   have b1:=hb3.ext hx1
   have c1:=b1.cell;have f1:=b1.free;have l1:=b1.lt
   have hfin:Blk (w1.setCell ⟨g3,0,none⟩ (.int .i64 E)) g3 24 #[.int .i64 E]:=b1.set 0 _
   have HF:=Hy hfin
   clear hfin hb3
   go_wp2
   go_ret
   exact⟨rfl,HF.out,(ExtC.ofExt (C:=fun k=>k=g3) (hx0.trans hx1)).set (p:=⟨g3,0,none⟩) (.inl rfl) _⟩
theorem visit3_any (g1 g2:Nat) (hne:g1≠g2) (c:Cd) (v:Value) (lev:Nat) (s:Int × Int) (w:World) (P:Nat->Prop) (hc:CdIn P w c v) (h1:Blk w g1 3 #[.int .i64 s.1]) (h2:Blk w g2 3 #[.int .i64 s.2]) :
 Calls Tryz.prog 180 #[v,.int .i64 lev,.pointer (some ⟨g1,0,none⟩),.pointer (some ⟨g2,0,none⟩)] w fun e w'=>e=.returned (.tuple #[])∧(Blk w' g1 3 #[.int .i64 (step3 c lev s).1.1]∧Blk w' g2 3 #[.int .i64 (step3 c lev s).1.2])∧ExtC (fun k=>k=g1∨k=g2) w w':=by
 obtain⟨k,n,x,A,m,cp,rfl⟩:=hc.cells
 obtain⟨p,d⟩:=s
 have c1:=h1.cell;have f1:=h1.free;have l1:=h1.lt
 have c2:=h2.cell;have f2:=h2.free;have l2:=h2.lt
 have H1:=Hy h1;have H2:=Hy h2
 unfold step3
 dsimp only at *
 clear hc h1 h2
 generalize hq:IntKind.i64.wrap (p+1)=q
 have hfin:=fun (b:Int) (o:Obj)=>(⟨⟨((H1.out.set 0 (.int .i64 q)).far (p:=⟨g2,0,none⟩) hne (.int .i64 b)).alloc o,((H2.out.far (p:=⟨g1,0,none⟩) (Ne.symm hne) (.int .i64 q)).set 0 (.int .i64 b)).alloc o⟩,(((ExtC.refl (fun k=>k=g1∨k=g2) w).set (p:=⟨g1,0,none⟩) (.inl (.inl rfl)) (.int .i64 q)).set (p:=⟨g2,0,none⟩) (.inl (.inr rfl)) (.int .i64 b)).alloc o⟩:(_∧_)∧_)
 have HF:=Hy hfin
 clear hfin
 go_enter Tryz.func180,Tryz.ntmps180
 go_wp2
 refine bodyPost_end (results_none rfl _ _ _) rfl ?_
 exact⟨rfl,HF.out _ _⟩
theorem visit4_any (g3:Nat) (c:Cd) (v:Value) (lev:Nat) (s:Int) (w:World) (P:Nat->Prop) (hg:GoodN w) (hsm:SmallC c) (hc:CdIn P w c v) (h3:Blk w g3 24 #[.int .i64 s]) :
 Calls Tryz.prog 181 #[v,.int .i64 lev,.pointer (some ⟨g3,0,none⟩)] w fun e w'=>e=.returned (.tuple #[])∧Blk w' g3 24 #[.int .i64 (step4 c lev s).1]∧ExtC (fun k=>k=g3) w w':=by
 cases hc with
 | mk k n x l A cp b o u0 u1 u2 u3 hA hb h0 h1 h2 h3' hr =>
   obtain⟨_,_,_,_,hsn,hsx,hsl,hsr⟩:=hsm
   have hb3:=h3.alloc (.cells #[.int .i64 k,.string n,.string x,.slice A l.length cp] 52)
   have hx0:Ext w (w.alloc (.cells #[.int .i64 k,.string n,.string x,.slice A l.length cp] 52)):=(Ext.refl w).alloc _
   have hp:=partError_any k n x A l.length cp _ (hg.ext hx0) hsn hsx hsl
   unfold step4 partC
   dsimp only[Cd.kind,Cd.name,Cd.value,Cd.args]
   generalize partErr k (bs n) (bs x) l.length=E at *
   have HP:=Hy hp
   have HG:=Hy h3
   have c3:=hb3.cell;have c3w:=h3.cell;have l3:=h3.lt
   clear hp h0 h1 h2 h3' hr hA hb h3
   by_cases hs:s=0
   ·rw[if_pos hs]
    have es:(s==0)=true:=beq_iff_eq.2 hs
    clear hs
    go_enter Tryz.func181,Tryz.ntmps181
    go_wp2_with fail
    refine HP.out.mono ?_
    rintro e w1 ⟨rfl,hx1⟩
    have b1:=hb3.ext hx1
    have c1:=b1.cell;have f1:=b1.free;have l1:=b1.lt
    have hfin:Blk (w1.setCell ⟨g3,0,none⟩ (.int .i64 E)) g3 24 #[.int .i64 E]:=b1.set 0 _
    have HF:=Hy hfin
    clear hfin hb3
    go_wp2
    refine bodyPost_end (results_none rfl _ _ _) rfl ?_
    exact⟨rfl,HF.out,(ExtC.ofExt (C:=fun k=>k=g3) (hx0.trans hx1)).set (p:=⟨g3,0,none⟩) (.inl rfl) _⟩
   ·rw[if_neg hs]
    have es:(s==0)=false:=beq_eq_false_iff_ne.2 hs
    have HB3:=Hy hb3
    clear hs hb3
    go_enter Tryz.func181,Tryz.ntmps181
    go_wp2
    refine bodyPost_end (results_none rfl _ _ _) rfl ?_
    exact⟨rfl,HB3.out,ExtC.ofExt hx0⟩
end Go.Proofs.YtmnafaaijglnfaaGreatDoor
