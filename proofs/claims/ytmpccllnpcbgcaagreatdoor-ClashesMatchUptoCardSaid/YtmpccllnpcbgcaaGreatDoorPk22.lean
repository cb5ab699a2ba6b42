/- Contracts of ver.CheckCond and outref2.CondError. Contracts of ver.CheckCond and outref2.CondError, the whole. What leads where, in plain words: the search breadth first, and the one depth first. Packages in memory. (Printed by gen/pkm.py.) slices.IndexFunc and slices.ContainsFunc over rows, their elements by what a load gives; loads of rows. (Printed by gen/seqs.py.) Packages among the arguments. (Printed by gen/openk.py.) -/
import Derived.Test.YtmpccllnpcbgcaaGreatDoorPk21
import Derived.Test.YtmpccllnpcbgcaaGreatDoorPk19
namespace Go.Proofs.YtmpccllnpcbgcaaGreatDoor
section
open Go.RowKit
def step1 (_:Cd) (lev:Nat) (s:Int × Bool):(Int × Bool) × Bool:=((IntKind.i64.wrap (s.1+1),s.2||decide (20 < lev)),decide (IntKind.i64.wrap (s.1+1)<=100))
def step2 (c:Cd) (_:Nat) (_:Int):Int × Bool:=(partC c,partC c==0)
def step3 (_:Cd) (lev:Nat) (s:Int × Int):(Int × Int) × Bool:=((IntKind.i64.wrap (s.1+1),max s.2 (lev:Int)),true)
def step4 (c:Cd) (_:Nat) (e:Int):Int × Bool:=(if e=0 then partC c else e,true)
theorem wrap_small {p:Int} (h0:0<=p) (h1:p<=1000000000):IntKind.i64.wrap (p+1)=p+1:=by rw[IntKind.wrap_i64];omega
theorem run1_small:∀ (l:List (Cd × Nat)) (p:Int) (d:Bool),0<=p->p+l.length<=100->runP step1 l (p,d)=((p+l.length,d||l.any fun q=>decide (20 < q.2)),true)
 | [],p,d,_,_=>by simp[runP]
 | q::r,p,d,h0,h1=>by
   simp only[List.length_cons] at h1
   have hw:=wrap_small h0 (by omega)
   unfold runP
   simp only[step1,hw]
   rw[if_pos (by rw[decide_eq_true_eq];omega),run1_small r (p+1) _ (by omega) (by omega)]
   simp only[List.length_cons,List.any_cons,Bool.or_assoc,Prod.mk.injEq,and_true]
   omega
theorem run1_large:∀ (l:List (Cd × Nat)) (p:Int) (d:Bool),0<=p->p<=100->100 < p+l.length->(runP step1 l (p,d)).1.1=101
 | [],p,d,_,h1,h2=>by simp at h2;omega
 | q::r,p,d,h0,h1,h2=>by
   simp only[List.length_cons] at h2
   have hw:=wrap_small h0 (by omega)
   unfold runP
   simp only[step1,hw]
   by_cases h:p+1<=100
   ·rw[if_pos (by rw[decide_eq_true_eq];exact h)]
    exact run1_large r (p+1) _ (by omega) h (by omega)
   ·rw[if_neg (by rw[decide_eq_true_eq];exact h)]
    show p+1=101
    omega
theorem run2_first:∀ (l:List (Cd × Nat)),(runP step2 l 0).1=firstErr l
 | []=>rfl
 | q::r=>by
   have h:∀ z,(runP step2 r z).1=if r=[] then z else firstErr r:=fun z=>by
    cases r with
    | nil=>rfl
    | cons a b=>rw[if_neg (by simp),<-run2_first (a::b)];rfl
   unfold runP firstErr
   simp only[step2,beq_iff_eq]
   by_cases hz:partC q.1=0
   ·rw[if_pos hz,if_pos hz,hz,run2_first r]
   ·rw[if_neg hz,if_neg hz]
theorem run3_all:∀ (l:List (Cd × Nat)) (m d:Int),0<=m->m+l.length<=1000000000->(runP step3 l (m,d)).1.1=m+l.length∧((20 < (runP step3 l (m,d)).1.2)↔(20 < d∨(l.any fun q=>decide (20 < q.2))=true))
 | [],m,d,_,_=>by simp[runP]
 | q::r,m,d,h0,h1=>by
   simp only[List.length_cons] at h1
   have hw:=wrap_small h0 (by omega)
   unfold runP
   simp only[step3,hw,if_true]
   obtain⟨a,b⟩:=run3_all r (m+1) (max d (q.2:Int)) (by omega) (by omega)
   refine⟨by rw[a,List.length_cons];omega,?_⟩
   rw[b,List.any_cons,Bool.or_eq_true,decide_eq_true_eq]
   constructor
   ·rintro (h|h)
    ·by_cases h2:20 < q.2
     ·exact .inr (.inl h2)
     ·exact .inl (by omega)
    ·exact .inr (.inr h)
   ·rintro (h|h|h)
    ·exact .inl (by omega)
    ·exact .inl (by omega)
    ·exact .inr h
theorem run4_first:∀ (l:List (Cd × Nat)) (e:Int),(runP step4 l e).1=if e=0 then firstErr l else e
 | [],e=>by
   unfold runP firstErr
   split
   ·assumption
   ·rfl
 | q::r,e=>by
   unfold runP
   simp only[step4,if_true]
   rw[run4_first r]
   by_cases he:e=0
   ·rw[if_pos he,if_pos he]
    rfl
   ·rw[if_neg he,if_neg he,if_neg he]
theorem visit1_any (g1 g2:Nat) (hne:g1≠g2) (c:Cd) (v:Value) (lev:Nat) (s:Int × Bool) (w:World) (P:Nat->Prop) (hlev:lev<=1000000000) (hc:CdIn P w c v) (h1:Blk w g1 3 #[.int .i64 s.1]) (h2:Blk w g2 4 #[.bool s.2]) :
 Calls Tryz.prog 174 #[v,.int .i64 lev,.pointer (some ⟨g1,0,none⟩),.pointer (some ⟨g2,0,none⟩)] w fun e w'=>e=.returned (.bool (step1 c lev s).2)∧(Blk w' g1 3 #[.int .i64 (step1 c lev s).1.1]∧Blk w' g2 4 #[.bool (step1 c lev s).1.2])∧ExtC (fun k=>k=g1∨k=g2) w w':=by
 obtain⟨k,n,x,A,m,cp,rfl⟩:=hc.cells
 obtain⟨p,d⟩:=s
 have c1:=h1.cell;have f1:=h1.free;have l1:=h1.lt
 have c2:=h2.cell;have f2:=h2.free;have l2:=h2.lt
 have H1:=Hy h1;have H2:=Hy h2
 unfold step1
 dsimp only at *
 clear hc h1 h2
 have hd2:decide ((20:Int) < (lev:Int))=decide (20 < lev):=by
  by_cases h:20 < lev
  ·rw[decide_eq_true h,decide_eq_true (by omega)]
  ·rw[decide_eq_false h,decide_eq_false (by omega)]
 rw[<-hd2]
 generalize hq:IntKind.i64.wrap (p+1)=q
 clear hd2
 have hfin:=fun (b:Bool) (o:Obj)=>(⟨⟨((H1.out.set 0 (.int .i64 q)).far (p:=⟨g2,0,none⟩) hne (.bool b)).alloc o,((H2.out.far (p:=⟨g1,0,none⟩) (Ne.symm hne) (.int .i64 q)).set 0 (.bool b)).alloc o⟩,(((ExtC.refl (fun k=>k=g1∨k=g2) w).set (p:=⟨g1,0,none⟩) (.inl (.inl rfl)) (.int .i64 q)).set (p:=⟨g2,0,none⟩) (.inl (.inr rfl)) (.bool b)).alloc o⟩:(_∧_)∧_)
 have HF:=Hy hfin
 clear hfin
 cases d
 ·go_enter Tryz.func174,Tryz.ntmps174
  go_wp2
  go_ret
  exact⟨rfl,HF.out _ _⟩
 ·go_enter Tryz.func174,Tryz.ntmps174
  go_wp2
  go_ret
  exact⟨rfl,HF.out _ _⟩
theorem visit2_any (g3:Nat) (c:Cd) (v:Value) (lev:Nat) (s:Int) (w:World) (P:Nat->Prop) (hg:GoodN w) (hsm:SmallC c) (hc:CdIn P w c v) (h3:Blk w g3 24 #[.int .i64 s]) :
 Calls Tryz.prog 175 #[v,.int .i64 lev,.pointer (some ⟨g3,0,none⟩)] w fun e w'=>e=.returned (.bool (step2 c lev s).2)∧Blk w' g3 24 #[.int .i64 (step2 c lev s).1]∧ExtC (fun k=>k=g3) w w':=by
 cases hc with
 | mk k n x l A cp b o u0 u1 u2 u3 hA hb h0 h1 h2 h3' hr =>
   obtain⟨_,_,_,_,hsn,hsx,hsl,hsr⟩:=hsm
   have hb3:=h3.alloc (.cells #[.int .i64 k,.string n,.string x,.slice A l.length cp] 52)
   have hx0:Ext w (w.alloc (.cells #[.int .i64 k,.string n,.string x,.slice A l.length cp] 52)):=(Ext.refl w).alloc _
   have hp:=partFault_any k n x A l.length cp _ (hg.ext hx0) hsn hsx hsl
   unfold step2 partC
   dsimp only[Cd.kind,Cd.name,Cd.value,Cd.args]
   generalize partErr k (bs n) (bs x) l.length=E at *
   have HP:=Hy hp
   clear hp h0 h1 h2 h3' hr hA hb h3
   go_enter Tryz.func175,Tryz.ntmps175
   go_wp2_with fail
   refine HP.out.mono ?_
   rintro e w1 ⟨rfl,hx1⟩
   have b1:=hb3.ext hx1
   have c1:=b1.cell;have f1:=b1.free;have l1:=b1.lt
   have hfin:Blk (w1.setCell ⟨g3,0,none⟩ (.int .i64 E)) g3 24 #[.int .i64 E]:=b1.set 0 _
   have HF:=Hy hfin
   clear hfin hb3
   go_wp2
   go_ret
   exact⟨rfl,HF.out,(ExtC.ofExt (C:=fun k=>k=g3) (hx0.trans hx1)).set (p:=⟨g3,0,none⟩) (.inl rfl) _⟩
theorem visit3_any (g1 g2:Nat) (hne:g1≠g2) (c:Cd) (v:Value) (lev:Nat) (s:Int × Int) (w:World) (P:Nat->Prop) (hc:CdIn P w c v) (h1:Blk w g1 3 #[.int .i64 s.1]) (h2:Blk w g2 3 #[.int .i64 s.2]) :
 Calls Tryz.prog 182 #[v,.int .i64 lev,.pointer (some ⟨g1,0,none⟩),.pointer (some ⟨g2,0,none⟩)] w fun e w'=>e=.returned (.tuple #[])∧(Blk w' g1 3 #[.int .i64 (step3 c lev s).1.1]∧Blk w' g2 3 #[.int .i64 (step3 c lev s).1.2])∧ExtC (fun k=>k=g1∨k=g2) w w':=by
 obtain⟨k,n,x,A,m,cp,rfl⟩:=hc.cells
 obtain⟨p,d⟩:=s
 have c1:=h1.cell;have f1:=h1.free;have l1:=h1.lt
 have c2:=h2.cell;have f2:=h2.free;have l2:=h2.lt
 have H1:=Hy h1;have H2:=Hy h2
 unfold step3
 dsimp only at *
 clear hc h1 h2
 generalize hq:IntKind.i64.wrap (p+1)=q
 have hfin:=fun (b:Int) (o:Obj)=>(⟨⟨((H1.out.set 0 (.int .i64 q)).far (p:=⟨g2,0,none⟩) hne (.int .i64 b)).alloc o,((H2.out.far (p:=⟨g1,0,none⟩) (Ne.symm hne) (.int .i64 q)).set 0 (.int .i64 b)).alloc o⟩,(((ExtC.refl (fun k=>k=g1∨k=g2) w).set (p:=⟨g1,0,none⟩) (.inl (.inl rfl)) (.int .i64 q)).set (p:=⟨g2,0,none⟩) (.inl (.inr rfl)) (.int .i64 b)).alloc o⟩:(_∧_)∧_)
 have HF:=Hy hfin
 clear hfin
 go_enter Tryz.func182,Tryz.ntmps182
 go_wp2
 refine bodyPost_end (results_none rfl _ _ _) rfl ?_
 exact⟨rfl,HF.out _ _⟩
theorem visit4_any (g3:Nat) (c:Cd) (v:Value) (lev:Nat) (s:Int) (w:World) (P:Nat->Prop) (hg:GoodN w) (hsm:SmallC c) (hc:CdIn P w c v) (h3:Blk w g3 24 #[.int .i64 s]) :
 Calls Tryz.prog 183 #[v,.int .i64 lev,.pointer (some ⟨g3,0,none⟩)] w fun e w'=>e=.returned (.tuple #[])∧Blk w' g3 24 #[.int .i64 (step4 c lev s).1]∧ExtC (fun k=>k=g3) w w':=by
 cases hc with
 | mk k n x l A cp b o u0 u1 u2 u3 hA hb h0 h1 h2 h3' hr =>
   obtain⟨_,_,_,_,hsn,hsx,hsl,hsr⟩:=hsm
   have hb3:=h3.alloc (.cells #[.int .i64 k,.string n,.string x,.slice A l.length cp] 52)
   have hx0:Ext w (w.alloc (.cells #[.int .i64 k,.string n,.string x,.slice A l.length cp] 52)):=(Ext.refl w).alloc _
   have hp:=partError_any k n x A l.length cp _ (hg.ext hx0) hsn hsx hsl
   unfold step4 partC
   dsimp only[Cd.kind,Cd.name,Cd.value,Cd.args]
   generalize partErr k (bs n) (bs x) l.length=E at *
   have HP:=Hy hp
   have HG:=Hy h3
   have c3:=hb3.cell;have c3w:=h3.cell;have l3:=h3.lt
   clear hp h0 h1 h2 h3' hr hA hb h3
   by_cases hs:s=0
   ·rw[if_pos hs]
    have es:(s==0)=true:=beq_iff_eq.2 hs
    clear hs
    go_enter Tryz.func183,Tryz.ntmps183
    go_wp2_with fail
    refine HP.out.mono ?_
    rintro e w1 ⟨rfl,hx1⟩
    have b1:=hb3.ext hx1
    have c1:=b1.cell;have f1:=b1.free;have l1:=b1.lt
    have hfin:Blk (w1.setCell ⟨g3,0,none⟩ (.int .i64 E)) g3 24 #[.int .i64 E]:=b1.set 0 _
    have HF:=Hy hfin
    clear hfin hb3
    go_wp2
    refine bodyPost_end (results_none rfl _ _ _) rfl ?_
    exact⟨rfl,HF.out,(ExtC.ofExt (C:=fun k=>k=g3) (hx0.trans hx1)).set (p:=⟨g3,0,none⟩) (.inl rfl) _⟩
   ·rw[if_neg hs]
    have es:(s==0)=false:=beq_eq_false_iff_ne.2 hs
    have HB3:=Hy hb3
    clear hs hb3
    go_enter Tryz.func183,Tryz.ntmps183
    go_wp2
    refine bodyPost_end (results_none rfl _ _ _) rfl ?_
    exact⟨rfl,HB3.out,ExtC.ofExt hx0⟩
end
section
open Go.RowKit
set_option maxRecDepth 100000 in
set_option maxHeartbeats 8000000 in
theorem CheckCond_any (c:Cd) (v:Value) (P:Nat->Prop) (w:World) (hg:GoodN w) (hc:CdIn P w c v) (hsm:SmallC c) (hcnt:cnt c<=100000000) :
 Calls Tryz.prog 103 #[v] w fun e w'=>e=.returned (.int .i64 (checkC c))∧Ext w w':=by
 have hcd:CdIn (fun k=>k < w.heap.size) w c v:=hc.imp fun b hb _=>hb
 obtain⟨k,n,x,A,m,cp,rfl⟩:=hc.cells
 clear hc
 have hxb:Ext w (((w.alloc (.cells #[.int .i64 k,.string n,.string x,.slice A m cp] 52)).alloc (.cells #[.int .i64 0] 3)).alloc (.cells #[.bool false] 4)):=(((Ext.refl w).alloc _).alloc _).alloc _
 have bx:=((Blk.new w 52 #[.int .i64 k,.string n,.string x,.slice A m cp]).alloc (.cells #[.int .i64 0] 3)).alloc (.cells #[.bool false] 4)
 have b1:=(Blk.new (w.alloc (.cells #[.int .i64 k,.string n,.string x,.slice A m cp] 52)) 3 #[.int .i64 0]).alloc (.cells #[.bool false] 4)
 have b2:=Blk.new ((w.alloc (.cells #[.int .i64 k,.string n,.string x,.slice A m cp] 52)).alloc (.cells #[.int .i64 0] 3)) 4 #[.bool false]
 rw[World.size_alloc] at b1
 rw[World.size_alloc,World.size_alloc] at b2
 have hB0:w.heap.size+1+1+1<=(((w.alloc (.cells #[.int .i64 k,.string n,.string x,.slice A m cp] 52)).alloc (.cells #[.int .i64 0] 3)).alloc (.cells #[.bool false] 4)).heap.size:=by rw[World.size_alloc,World.size_alloc,World.size_alloc];exact Nat.le_refl _
 have hw1:=walk_any 174 #[.pointer (some ⟨w.heap.size+1,0,none⟩),.pointer (some ⟨w.heap.size+1+1,0,none⟩)] (fun xs w=>by kernel_rfl) (fun k=>k < w.heap.size) (fun k=>k=w.heap.size+1∨k=w.heap.size+1+1) (w.heap.size+1+1+1)
  (fun (st:Int × Bool) W=>(Blk W (w.heap.size+1) 3 #[.int .i64 st.1]∧Blk W (w.heap.size+1+1) 4 #[.bool st.2])∧w.heap.size+1+1+1<=W.heap.size) step1
  (fun st W W' h hx=>⟨⟨h.1.1.ext hx,h.1.2.ext hx⟩,Nat.le_trans h.2 hx.size⟩) (fun k hk=>by omega) (fun st W h=>h.2) (fun k hk h=>by omega)
  (fun c v lev st W hl hs hcv h=>(visit1_any (w.heap.size+1) (w.heap.size+1+1) (by omega) c v lev st W _ hl hcv h.1.1 h.1.2).mono fun e W' ⟨a,b,d⟩=>⟨a,⟨b,Nat.le_trans h.2 d.size⟩,d⟩)
  (cnt c) c (Nat.le_refl _) 0 _ (0,false) _ (by omega) hsm (hcd.ext hxb) ⟨⟨b1,b2⟩,hB0⟩
 rw[show ((0:Nat):Int)=0 from rfl] at hw1
 have hsx:=hxb.size
 have HW1:=Hy hw1
 have hch:checkC c=if 100 < cnt c then 4 else if firstErr (prt 0 c)≠0 then firstErr (prt 0 c) else if (prt 0 c).any (fun p=>decide (20 < p.2))=true then 4 else 0:=rfl
 rw[hch]
 have hlen:=prt_len 0 c
 clear hw1 hch
 by_cases hbig:100 < cnt c
 ·have hl:=run1_large (prt 0 c) 0 false (by omega) (by omega) (by omega)
  rw[if_pos hbig]
  generalize (runP step1 (prt 0 c) (0,false)).1=S at *
  obtain⟨s1,s2⟩:=S
  have hl:s1=101:=hl
  subst hl
  go_enter Tryz.func103,Tryz.ntmps103
  go_wp2_with fail
  refine HW1.out.mono ?_
  rintro e W1 ⟨rfl,⟨⟨hb1,hb2⟩,hB1⟩,hx1⟩
  have c1:=hb1.cell
  have hxf:Ext w W1:=ExtC.ext hxb hx1 (fun i hi=>by omega)
  clear bx b1 b2 hb1 hb2 hx1
  go_wp2
  go_ret
  exact⟨rfl,hxf⟩
 have hsmall:=run1_small (prt 0 c) 0 false (by omega) (by omega)
 rw[if_neg hbig]
 have hs1:(runP step1 (prt 0 c) (0,false)).1=(((cnt c:Nat):Int),(prt 0 c).any fun q=>decide (20 < q.2)):=by rw[hsmall,hlen];simp
 rw[hs1] at HW1
 have hnc:¬ (100:Int) < (cnt c:Int):=by omega
 generalize (prt 0 c).any (fun q=>decide (20 < q.2))=dp at *
 clear hsmall hs1
 obtain⟨R,hR⟩:∃ R:Int,R=(if firstErr (prt 0 c)≠0 then firstErr (prt 0 c) else if dp=true then 4 else 0):=⟨_,rfl⟩
 rw[<-hR]
 have HR:=Hy hR
 clear hR
 go_enter Tryz.func103,Tryz.ntmps103
 go_wp2_with fail
 refine HW1.out.mono ?_
 rintro e W1 ⟨rfl,⟨⟨hb1,hb2⟩,hB1⟩,hx1⟩
 have c1:=hb1.cell;have c2:=hb2.cell
 have bx1:=bx.extC hx1 (by omega)
 have cx:=bx1.cell
 have hxf:Ext w W1:=ExtC.ext hxb hx1 (fun i hi=>by omega)
 have hz1:=hxf.size
 have b3:=Blk.new W1 24 #[.int .i64 0]
 have hx3:Ext W1 (W1.alloc (.cells #[.int .i64 0] 24)):=(Ext.refl W1).alloc _
 have hw2:=walk_any 175 #[.pointer (some ⟨W1.heap.size,0,none⟩)] (fun xs w=>by kernel_rfl) (fun k=>k < w.heap.size) (fun k=>k=W1.heap.size) (W1.heap.size+1)
  (fun (st:Int) W=>Ext w W∧Blk W W1.heap.size 24 #[.int .i64 st]∧W1.heap.size+1<=W.heap.size) step2
  (fun st W W' h hx=>⟨h.1.trans hx,h.2.1.ext hx,Nat.le_trans h.2.2 hx.size⟩) (fun k hk=>by omega) (fun st W h=>h.2.2) (fun k hk h=>by omega)
  (fun c v lev st W hl hs hcv h=>(visit2_any W1.heap.size c v lev st W _ (hg.ext h.1) hs hcv h.2.1).mono fun e W' ⟨a,b,d⟩=>⟨a,⟨ExtC.ext h.1 d (fun i hi=>by omega),b,Nat.le_trans h.2.2 d.size⟩,d⟩)
  (cnt c) c (Nat.le_refl _) 0 _ 0 _ (by omega) hsm ((hcd.ext hxf).ext hx3) ⟨hxf.trans hx3,b3,by rw[World.size_alloc];exact Nat.le_refl _⟩
 rw[show ((0:Nat):Int)=0 from rfl] at hw2
 have hfe:(runP step2 (prt 0 c) 0).1=firstErr (prt 0 c):=run2_first _
 rw[hfe] at hw2
 generalize firstErr (prt 0 c)=E at *
 have HW2:=Hy hw2
 have HB1:=Hy hb1;have HB2:=Hy hb2
 have hl1:=hb1.lt;have hl2:=hb2.lt;have hlx:=bx1.lt
 clear hw2 hfe b1 b2 bx b3 hb1 hx1 hxf hx3 hlen hcd hsm
 go_wp2_with fail
 refine HW2.out.mono ?_
 rintro e W2 ⟨rfl,⟨hxf2,hb3,hB2⟩,hx2⟩
 have hb22:=(hb2.alloc (.cells #[.int .i64 0] 24)).extC hx2 (by omega)
 have d2:=hb22.cell;have d3:=hb3.cell
 have hR:=HR.out
 by_cases hE:E=0
 ·have eE:(E==0)=true:=beq_iff_eq.2 hE
  rw[if_neg (fun h=>h hE)] at hR
  have HE:=Hy hE
  clear hE
  cases dp
  ·rw[if_neg (by decide)] at hR
   have HRz:=Hy hR
   clear hR HR
   go_wp2
   go_ret
   exact⟨ret_int (by rw[HRz.out];exact HE.out),hxf2⟩
  ·rw[if_pos rfl] at hR
   have HRz:=Hy hR
   clear hR HR
   go_wp2
   go_ret
   exact⟨ret_int HRz.out.symm,hxf2⟩
 ·have eE:(E==0)=false:=beq_eq_false_iff_ne.2 hE
  rw[if_pos hE] at hR
  have HRz:=Hy hR
  clear hE hR HR
  go_wp2
  go_ret
  exact⟨ret_int HRz.out.symm,hxf2⟩
set_option maxRecDepth 100000 in
set_option maxHeartbeats 8000000 in
theorem CondError_any (c:Cd) (v:Value) (P:Nat->Prop) (w:World) (hg:GoodN w) (hc:CdIn P w c v) (hsm:SmallC c) (hcnt:cnt c<=100000000) :
 Calls Tryz.prog 107 #[v] w fun e w'=>e=.returned (.int .i64 (checkC c))∧Ext w w':=by
 have hcd:CdIn (fun k=>k < w.heap.size) w c v:=hc.imp fun b hb _=>hb
 obtain⟨k,n,x,A,m,cp,rfl⟩:=hc.cells
 clear hc
 have hxb:Ext w (((w.alloc (.cells #[.int .i64 k,.string n,.string x,.slice A m cp] 52)).alloc (.cells #[.int .i64 0] 3)).alloc (.cells #[.int .i64 0] 3)):=(((Ext.refl w).alloc _).alloc _).alloc _
 have bx:=((Blk.new w 52 #[.int .i64 k,.string n,.string x,.slice A m cp]).alloc (.cells #[.int .i64 0] 3)).alloc (.cells #[.int .i64 0] 3)
 have b1:=(Blk.new (w.alloc (.cells #[.int .i64 k,.string n,.string x,.slice A m cp] 52)) 3 #[.int .i64 0]).alloc (.cells #[.int .i64 0] 3)
 have b2:=Blk.new ((w.alloc (.cells #[.int .i64 k,.string n,.string x,.slice A m cp] 52)).alloc (.cells #[.int .i64 0] 3)) 3 #[.int .i64 0]
 rw[World.size_alloc] at b1
 rw[World.size_alloc,World.size_alloc] at b2
 have hB0:w.heap.size+1+1+1<=(((w.alloc (.cells #[.int .i64 k,.string n,.string x,.slice A m cp] 52)).alloc (.cells #[.int .i64 0] 3)).alloc (.cells #[.int .i64 0] 3)).heap.size:=by rw[World.size_alloc,World.size_alloc,World.size_alloc];exact Nat.le_refl _
 have hw1:=CondParts_any 182 #[.pointer (some ⟨w.heap.size+1,0,none⟩),.pointer (some ⟨w.heap.size+1+1,0,none⟩)] (fun xs w=>by kernel_rfl) (fun k=>k < w.heap.size) (fun k=>k=w.heap.size+1∨k=w.heap.size+1+1) (w.heap.size+1+1+1)
  (fun (st:Int × Int) W=>(Blk W (w.heap.size+1) 3 #[.int .i64 st.1]∧Blk W (w.heap.size+1+1) 3 #[.int .i64 st.2])∧w.heap.size+1+1+1<=W.heap.size) step3
  (fun st W W' h hx=>⟨⟨h.1.1.ext hx,h.1.2.ext hx⟩,Nat.le_trans h.2 hx.size⟩) (fun k hk=>by omega) (fun st W h=>h.2) (fun k hk h=>by omega) (fun _ _ _=>rfl)
  (fun c v lev st W hl hs hcv h=>(visit3_any (w.heap.size+1) (w.heap.size+1+1) (by omega) c v lev st W _ hcv h.1.1 h.1.2).mono fun e W' ⟨a,b,d⟩=>⟨a,⟨b,Nat.le_trans h.2 d.size⟩,d⟩)
  (cnt c) c (Nat.le_refl _) 0 _ (0,0) _ (by omega) hsm (hcd.ext hxb) ⟨⟨b1,b2⟩,hB0⟩
 rw[show ((0:Nat):Int)=0 from rfl] at hw1
 have hsx:=hxb.size
 have HW1:=Hy hw1
 have hch:checkC c=if 100 < cnt c then 4 else if firstErr (prt 0 c)≠0 then firstErr (prt 0 c) else if (prt 0 c).any (fun p=>decide (20 < p.2))=true then 4 else 0:=rfl
 rw[hch]
 have hlen:=prt_len 0 c
 clear hw1 hch
 have hrun:=run3_all (prt 0 c) 0 0 (by omega) (by omega)
 generalize (runP step3 (prt 0 c) (0,0)).1=S at *
 obtain⟨s1,s2⟩:=S
 obtain⟨hr1,hr2⟩:=hrun
 dsimp only at hr1 hr2
 rw[hlen] at hr1
 by_cases hbig:100 < cnt c
 ·rw[if_pos hbig]
  have hs1:(100:Int) < s1:=by omega
  clear hr1 hr2
  go_enter Tryz.func107,Tryz.ntmps107
  go_wp2_with fail
  refine HW1.out.mono ?_
  rintro e W1 ⟨rfl,⟨⟨hb1,hb2⟩,hB1⟩,hx1⟩
  have c1:=hb1.cell
  have hxf:Ext w W1:=ExtC.ext hxb hx1 (fun i hi=>by omega)
  clear bx b1 b2 hb1 hb2 hx1
  go_wp2
  go_ret
  exact⟨rfl,hxf⟩
 rw[if_neg hbig]
 have hs1:¬ (100:Int) < s1:=by omega
 have hr3:(20 < s2)↔((prt 0 c).any fun q=>decide (20 < q.2))=true:=by rw[hr2];exact⟨fun h=>h.elim (fun x=>absurd x (by decide)) id,.inr⟩
 generalize (prt 0 c).any (fun q=>decide (20 < q.2))=dp at *
 obtain⟨Wn,hWn⟩:∃ Wn:Int,(if decide ((20:Int) < s2)=true then (4:Int) else 0)=Wn:=⟨_,rfl⟩
 have hwh:=fun W=>When_any (decide ((20:Int) < s2)) 4 W
 have hfs:(if firstErr (prt 0 c)≠0 then firstErr (prt 0 c) else if dp=true then 4 else 0)=firstI [firstErr (prt 0 c),Wn]:=by
  generalize firstErr (prt 0 c)=E
  rw[<-hWn]
  by_cases hE:E=0
  ·subst hE
   rw[if_neg (by decide)]
   by_cases h20:(20:Int) < s2
   ·rw[decide_eq_true h20,hr3.1 h20];rfl
   ·rw[decide_eq_false h20,(Bool.not_eq_true _).mp (fun h=>h20 (hr3.2 h))];rfl
  ·rw[if_pos hE]
   simp[firstI,hE]
 rw[hfs]
 simp only[hWn] at hwh
 have HWH:=Hy hwh
 clear hwh hfs hWn hr1 hr2 hr3
 go_enter Tryz.func107,Tryz.ntmps107
 go_wp2_with fail
 refine HW1.out.mono ?_
 rintro e W1 ⟨rfl,⟨⟨hb1,hb2⟩,hB1⟩,hx1⟩
 have c1:=hb1.cell;have c2:=hb2.cell
 have bx1:=bx.extC hx1 (by omega)
 have cx:=bx1.cell
 have hxf:Ext w W1:=ExtC.ext hxb hx1 (fun i hi=>by omega)
 have hz1:=hxf.size
 have b3:=Blk.new W1 24 #[.int .i64 0]
 have hx3:Ext W1 (W1.alloc (.cells #[.int .i64 0] 24)):=(Ext.refl W1).alloc _
 have hw2:=CondParts_any 183 #[.pointer (some ⟨W1.heap.size,0,none⟩)] (fun xs w=>by kernel_rfl) (fun k=>k < w.heap.size) (fun k=>k=W1.heap.size) (W1.heap.size+1)
  (fun (st:Int) W=>Ext w W∧Blk W W1.heap.size 24 #[.int .i64 st]∧W1.heap.size+1<=W.heap.size) step4
  (fun st W W' h hx=>⟨h.1.trans hx,h.2.1.ext hx,Nat.le_trans h.2.2 hx.size⟩) (fun k hk=>by omega) (fun st W h=>h.2.2) (fun k hk h=>by omega) (fun _ _ _=>rfl)
  (fun c v lev st W hl hs hcv h=>(visit4_any W1.heap.size c v lev st W _ (hg.ext h.1) hs hcv h.2.1).mono fun e W' ⟨a,b,d⟩=>⟨a,⟨ExtC.ext h.1 d (fun i hi=>by omega),b,Nat.le_trans h.2.2 d.size⟩,d⟩)
  (cnt c) c (Nat.le_refl _) 0 _ 0 _ (by omega) hsm ((hcd.ext hxf).ext hx3) ⟨hxf.trans hx3,b3,by rw[World.size_alloc];exact Nat.le_refl _⟩
 rw[show ((0:Nat):Int)=0 from rfl] at hw2
 have hfe:(runP step4 (prt 0 c) 0).1=firstErr (prt 0 c):=by rw[run4_first,if_pos rfl]
 rw[hfe] at hw2
 obtain⟨E,hE0⟩:∃ E,firstErr (prt 0 c)=E:=⟨_,rfl⟩
 rw[hE0] at hw2
 have HE0:=Hy hE0
 clear hE0
 have HW2:=Hy hw2
 have HB1:=Hy hb1;have HB2:=Hy hb2
 have hl1:=hb1.lt;have hl2:=hb2.lt;have hlx:=bx1.lt
 clear hw2 hfe b1 b2 bx b3 hb1 hx1 hxf hx3 hlen hcd hsm
 go_wp2_with fail
 refine HW2.out.mono ?_
 rintro e W2 ⟨rfl,⟨hxf2,hb3,hB2⟩,hx2⟩
 have hb22:=(hb2.alloc (.cells #[.int .i64 0] 24)).extC hx2 (by omega)
 have d2:=hb22.cell;have d3:=hb3.cell
 have hl3:=hb3.lt;have hl22:=hb22.lt
 have q2:W2.cell? ⟨w.heap.size+1+1,0,none⟩=some (.int .i64 s2):=d2 0
 have q3:W2.cell? ⟨W1.heap.size,0,none⟩=some (.int .i64 E):=d3 0
 clear d2 d3
 go_wp2_with fail
 go_region_held3 (fun w'=>w'.cell? ⟨w.heap.size+1+1,0,none⟩=some (.int .i64 s2)∧w'.cell? ⟨W1.heap.size,0,none⟩=some (.int .i64 E)) (first|(go_keep;done)|skip)
  (first
  | (go_at_call 46;refine (HWH.out _).mono ?_;rintro e w' ⟨rfl,rfl⟩)
  | (go_at_call 11;refine (First_any _ _ [E,Wn] _ ?_ (by simp)).mono ?_;(next=>(intro k hk;match k,hk with|0,_=>(simp;done)|1,_=>(simp;done)));rintro e w' ⟨rfl,rfl⟩))
 all_goals
  go_wp2
  go_ret
  refine⟨?_,?_⟩
  ·simp[HE0.out]
  ·exact (hxf2.alloc _).drew
end
section
open Go.RowKit
section
variable {l:List Cmp} {ns:List ByteArray}
theorem Has.step {a b:ByteArray} (h:Has l ns a) (hb:b∈needsOf l a):Has l ns b:=by
 rcases h with h|⟨c,hc,hl⟩
 ·exact .inr ⟨a,h,.one hb⟩
 ·exact .inr ⟨c,hc,hl.trans (.one hb)⟩
def Marked (l:List Cmp) (V:Nat->Bool) (n:ByteArray):Prop:=∃ (i:Nat) (h:i < l.length),V i=true∧l[i].name=n
theorem Marked.set {V:Nat->Bool} {n:ByteArray} (h:Marked l V n) (k:Nat):Marked l (fun i=>if i=k then true else V i) n:=by
 obtain⟨i,hi,hv,hn⟩:=h
 exact⟨i,hi,by dsimp only;split<;>simp[hv],hn⟩
theorem isComp_at {i:Nat} (h:i < l.length):isComp l l[i].name=true:=by
 unfold isComp
 exact List.any_eq_true.2 ⟨l[i],List.getElem_mem h,by simp⟩
theorem needsOf_at {i:Nat} (h:i < l.length) (hn:(l.map Cmp.name).Nodup):needsOf l l[i].name=l[i].needs:=needsOf_mem (List.getElem_mem h) hn
theorem name_inj {i j:Nat} (hi:i < l.length) (hj:j < l.length) (hn:(l.map Cmp.name).Nodup) (e:l[i].name=l[j].name):i=j:=by
 have h1:i < (l.map Cmp.name).length:=by simpa using hi
 have h2:j < (l.map Cmp.name).length:=by simpa using hj
 have hp:=List.pairwise_iff_getElem.1 hn
 rcases Nat.lt_trichotomy i j with h|h|h
 ·exact absurd (by simpa using e) (hp i j h1 h2 h)
 ·exact h
 ·exact absurd (by simpa using e.symm) (hp j i h2 h1 h)
structure Bfs (l:List Cmp) (ns:List ByteArray) (V:Nat->Bool) (L:List ByteArray):Prop where
 seen:∀ i (h:i < l.length),V i=true->Has l ns l[i].name
 list:∀ n∈L,Has l ns n
 start:∀ n∈ns,n∈L∨Marked l V n∨isComp l n=false
 next:∀ i (h:i < l.length),V i=true->∀ n∈l[i].needs,n∈L∨Marked l V n∨isComp l n=false
namespace Bfs
variable {V:Nat->Bool} {L:List ByteArray} {n:ByteArray}
theorem init:Bfs l ns (fun _=>false) ns:=⟨(fun _ _ h=>by cases h),(fun _ h=>.inl h),(fun _ h=>.inl h),(fun _ _ h=>by cases h)⟩
theorem skip (h:Bfs l ns V (n::L)) (hn:Marked l V n∨isComp l n=false):Bfs l ns V L:=by
 have key:∀ m,m∈n::L∨Marked l V m∨isComp l m=false->m∈L∨Marked l V m∨isComp l m=false:=fun m hm=>by
  rcases hm with hm|hm
  ·rcases List.mem_cons.1 hm with rfl|hm
   ·exact .inr hn
   ·exact .inl hm
  ·exact .inr hm
 exact⟨h.seen,(fun m hm=>h.list m (List.mem_cons_of_mem _ hm)),(fun m hm=>key m (h.start m hm)),(fun i hi hv m hm=>key m (h.next i hi hv m hm))⟩
theorem mark (h:Bfs l ns V (n::L)) (hnd:(l.map Cmp.name).Nodup) {k:Nat} (hk:k < l.length) (hn:l[k].name=n):Bfs l ns (fun i=>if i=k then true else V i) (L++l[k].needs):=by
 have hh:Has l ns n:=h.list n (by simp)
 have hmk:Marked l (fun i=>if i=k then true else V i) n:=⟨k,hk,by simp,hn⟩
 have key:∀ m,m∈n::L∨Marked l V m∨isComp l m=false->m∈L++l[k].needs∨Marked l (fun i=>if i=k then true else V i) m∨isComp l m=false:=fun m hm=>by
  rcases hm with hm|hm|hm
  ·rcases List.mem_cons.1 hm with rfl|hm
   ·exact .inr (.inl hmk)
   ·exact .inl (List.mem_append_left _ hm)
  ·exact .inr (.inl (hm.set k))
  ·exact .inr (.inr hm)
 refine⟨fun i hi hv=>?_,fun m hm=>?_,fun m hm=>key m (h.start m hm),fun i hi hv m hm=>?_⟩
 ·by_cases e:i=k
  ·subst e;rw[hn];exact hh
  ·rw[if_neg e] at hv
   exact h.seen i hi hv
 ·rcases List.mem_append.1 hm with hm|hm
  ·exact h.list m (List.mem_cons_of_mem _ hm)
  ·refine hh.step ?_
   rw[<-hn,needsOf_at hk hnd]
   exact hm
 ·by_cases e:i=k
  ·subst e;exact .inl (List.mem_append_right _ hm)
  ·rw[if_neg e] at hv
   exact key m (h.next i hi hv m hm)
theorem done (h:Bfs l ns V []) (hnd:(l.map Cmp.name).Nodup) {i:Nat} (hi:i < l.length):V i=hasB l ns l[i].name:=by
 rw[Bool.eq_iff_iff,hasB_iff]
 refine⟨h.seen i hi,fun hh=>?_⟩
 have key:=hh.closed (S:=fun m=>Marked l V m∨isComp l m=false) (fun m hm=>by simpa using h.start m hm) (fun a b ha hb=>by
  rcases ha with ⟨j,hj,hv,rfl⟩|ha
  ·rw[needsOf_at hj hnd] at hb
   simpa using h.next j hj hv b hb
  ·rw[needsOf_none ha] at hb
   cases hb)
 rcases key with ⟨j,hj,hv,he⟩|hc
 ·rw[<-name_inj hj hi hnd he];exact hv
 ·rw[isComp_at hi] at hc;cases hc
end Bfs
def cmLeft (l:List Cmp) (V:Nat->Bool):Nat:=((List.range l.length).map fun i=>if V i=true then 0 else (l.getD i zeroP).needs.length).sum
theorem sum_set:∀ (n k:Nat) (f g:Nat->Nat),k < n->(∀ i,i≠k->g i=f i)->((List.range n).map g).sum+f k=((List.range n).map f).sum+g k
 | 0,_,_,_,h,_=>absurd h (Nat.not_lt_zero _)
 | n+1,k,f,g,h,hg=>by
   rw[List.range_succ,List.map_append,List.map_append,List.sum_append,List.sum_append]
   simp only[List.map_cons,List.map_nil,List.sum_cons,List.sum_nil,Nat.add_zero]
   rcases Nat.lt_or_ge k n with hk|hk
   ·have:=sum_set n k f g hk hg
    have:=hg n (by omega)
    omega
   ·obtain rfl:k=n:=by omega
    have:(List.range k).map g=(List.range k).map f:=List.map_congr_left fun i hi=>hg i (by have:=List.mem_range.1 hi;omega)
    rw[this]
    omega
theorem cmLeft_mark {V:Nat->Bool} {k:Nat} (hk:k < l.length) (hv:V k=false):cmLeft l (fun i=>if i=k then true else V i)+l[k].needs.length=cmLeft l V:=by
 unfold cmLeft
 have h:=sum_set l.length k (fun i=>if V i=true then 0 else (l.getD i zeroP).needs.length) (fun i=>if (if i=k then true else V i)=true then 0 else (l.getD i zeroP).needs.length) hk (fun i hi=>by simp[hi])
 simp[hv,List.getD,List.getElem?_eq_getElem hk] at h
 simpa using h
def freeN (l:List Cmp) (L:List ByteArray):Nat:=((l.flatMap Cmp.needs).filter fun x=>!memB x L).length
theorem filter_lt {α:Type} {p q:α->Bool}:∀ {l:List α} {x:α},x∈l->p x=true->q x=false->(∀ y,q y=true->p y=true)->(l.filter q).length < (l.filter p).length
 | y::l,x,hx,hp,hq,h=>by
   have hle:∀ l:List α,(l.filter q).length<=(l.filter p).length:=fun l=>by
    induction l with
    | nil=>exact Nat.le_refl _
    | cons z l ih =>
      rw[List.filter_cons,List.filter_cons]
      by_cases h1:q z=true
      ·rw[if_pos h1,if_pos (h z h1)];simpa using ih
      ·rw[if_neg h1]
       split
       ·simp only[List.length_cons];omega
       ·exact ih
   rw[List.filter_cons,List.filter_cons]
   rcases List.mem_cons.1 hx with rfl|hx
   ·rw[if_neg (by rw[hq];decide),if_pos hp]
    have:=hle l
    simp only[List.length_cons];omega
   ·have ih:=filter_lt hx hp hq h
    by_cases h1:q y=true
    ·rw[if_pos h1,if_pos (h y h1)];simpa using ih
    ·rw[if_neg h1]
     split
     ·simp only[List.length_cons];omega
     ·exact ih
theorem needsOf_sub {a b:ByteArray} (h:b∈needsOf l a):b∈l.flatMap Cmp.needs:=by
 unfold needsOf at h
 split at h
 ·rename_i c hc
  exact List.mem_flatMap.2 ⟨c,List.mem_of_find?_eq_some hc,h⟩
 ·cases h
theorem freeN_lt {L:List ByteArray} {a x:ByteArray} (hx:x∈needsOf l a) (hn:x ∉ L):freeN l (L++[x]) < freeN l L:=by
 unfold freeN
 refine filter_lt (needsOf_sub hx) (by rw[memB_no.2 hn];rfl) (by rw[memB_iff.2 (by simp)];rfl) (fun y hy=>?_)
 have h1:memB y (L++[x])=false:=by simpa using hy
 rw[memB_no] at h1
 rw[memB_no.2 fun h=>h1 (List.mem_append_left _ h)]
 rfl
theorem freeN_le {L L':List ByteArray} (h:∀ x∈L,x∈L'):freeN l L'<=freeN l L:=by
 unfold freeN
 induction l.flatMap Cmp.needs with
 | nil=>exact Nat.le_refl _
 | cons z u ih =>
   rw[List.filter_cons,List.filter_cons]
   by_cases h1:z∈L
   ·rw[memB_iff.2 h1,memB_iff.2 (h z h1)];simpa using ih
   ·rw[memB_no.2 h1,if_pos (by rfl:(!false)=true)]
    split
    ·simpa using ih
    ·simp only[List.length_cons];omega
structure Dfs (l:List Cmp) (a:ByteArray) (L0 L:List ByteArray) (j:Nat):Prop where
 sub:∀ x∈L0,x∈L
 led:∀ x∈L,x∈L0∨Leads l a x
 walked:∀ i (h:i < (needsOf l a).length),i < j->(needsOf l a)[i]∈L
 closed:∀ y∈L,y ∉ L0->∀ x∈needsOf l y,x∈L
namespace Dfs
variable {a:ByteArray} {L0 L L':List ByteArray} {j:Nat}
theorem init:Dfs l a L0 L0 0:=⟨(fun _ h=>h),(fun _ h=>.inl h),(fun _ _ h=>absurd h (Nat.not_lt_zero _)),(fun _ h hn=>absurd h hn)⟩
theorem skip (h:Dfs l a L0 L j) (hj:j < (needsOf l a).length) (hm:(needsOf l a)[j]∈L):Dfs l a L0 L (j+1) :=
 ⟨h.sub,h.led,(fun i hi hij=>by
   rcases Nat.lt_or_ge i j with h1|h1
   ·exact h.walked i hi h1
   ·obtain rfl:i=j:=by omega
    exact hm),h.closed⟩
theorem down (h:Dfs l a L0 L j) (hj:j < (needsOf l a).length) (k:Dfs l (needsOf l a)[j] (L++[(needsOf l a)[j]]) L' (needsOf l (needsOf l a)[j]).length):Dfs l a L0 L' (j+1):=by
 have hx:(needsOf l a)[j]∈needsOf l a:=List.getElem_mem hj
 have hin:∀ x∈L,x∈L':=fun x hx=>k.sub x (List.mem_append_left _ hx)
 refine⟨fun x hx=>hin x (h.sub x hx),fun x hx'=>?_,fun i hi hij=>?_,fun y hy hn x hxy=>?_⟩
 ·rcases k.led x hx' with h1|h1
  ·rcases List.mem_append.1 h1 with h1|h1
   ·exact h.led x h1
   ·rw[List.mem_singleton] at h1
    subst h1
    exact .inr (.one hx)
  ·exact .inr (.more hx h1)
 ·rcases Nat.lt_or_ge i j with h1|h1
  ·exact hin _ (h.walked i hi h1)
  ·obtain rfl:i=j:=by omega
   exact k.sub _ (by simp)
 ·by_cases h1:y∈L
  ·exact hin _ (h.closed y h1 hn x hxy)
  ·by_cases h2:y=(needsOf l a)[j]
   ·subst h2
    obtain⟨i,hi,rfl⟩:=List.mem_iff_getElem.1 hxy
    exact k.walked i hi hi
   ·exact k.closed y hy (by simp[h1,h2]) x hxy
theorem all (h:Dfs l a [] L (needsOf l a).length) (b:ByteArray):b∈L↔Leads l a b:=by
 constructor
 ·intro hb
  rcases h.led b hb with h1|h1
  ·cases h1
  ·exact h1
 ·intro hb
  rw[leads_needs] at hb
  exact hb.closed (S:=fun x=>x∈L) (fun x hx=>by
   obtain⟨i,hi,rfl⟩:=List.mem_iff_getElem.1 hx
   exact h.walked i hi hi) (fun y x hy hx=>h.closed y hy (by simp) x hx)
end Dfs
end
end
section
open Go.RowKit
abbrev itmV (x:Itm):Value:=.agg #[.int .i64 x.kind,.string x.path,.string x.data,.bool x.runs,.string x.key,.string x.val,.string x.sn,.string x.sp,.bool x.auto,.bool x.on]
structure ItRow (w:World) (b o:Nat) (x:Itm):Prop where
 r0:w.cell? ⟨b,o,none⟩=some (.int .i64 x.kind)
 r1:w.cell? ⟨b,o+1,none⟩=some (.string x.path)
 r2:w.cell? ⟨b,o+2,none⟩=some (.string x.data)
 r3:w.cell? ⟨b,o+3,none⟩=some (.bool x.runs)
 r4:w.cell? ⟨b,o+4,none⟩=some (.string x.key)
 r5:w.cell? ⟨b,o+5,none⟩=some (.string x.val)
 r6:w.cell? ⟨b,o+6,none⟩=some (.string x.sn)
 r7:w.cell? ⟨b,o+7,none⟩=some (.string x.sp)
 r8:w.cell? ⟨b,o+8,none⟩=some (.bool x.auto)
 r9:w.cell? ⟨b,o+9,none⟩=some (.bool x.on)
theorem ItRow.ext {w w':World} {b o:Nat} {x:Itm} (h:ItRow w b o x) (hx:Ext w w'):ItRow w' b o x :=
 ⟨hx.cell h.r0,hx.cell h.r1,hx.cell h.r2,hx.cell h.r3,hx.cell h.r4,hx.cell h.r5,hx.cell h.r6,hx.cell h.r7,hx.cell h.r8,hx.cell h.r9⟩
def RdI (w:World) (A:Option Addr) (l:List Itm):Prop:=l≠[]->∃ b o,A=some ⟨b,o,none⟩∧∀ q (h:q < l.length),ItRow w b (o+q * 10) l[q]
theorem RdI.ext {w w':World} {A:Option Addr} {l:List Itm} (h:RdI w A l) (hx:Ext w w'):RdI w' A l:=fun hn=>by
 obtain⟨b,o,e,k⟩:=h hn
 exact⟨b,o,e,fun i hi=>(k i hi).ext hx⟩
abbrev stoV (s:Sto):Value:=.agg #[.int .i64 s.kind,.string s.name,.string s.val]
structure StoRow (w:World) (b o:Nat) (s:Sto):Prop where
 r0:w.cell? ⟨b,o,none⟩=some (.int .i64 s.kind)
 r1:w.cell? ⟨b,o+1,none⟩=some (.string s.name)
 r2:w.cell? ⟨b,o+2,none⟩=some (.string s.val)
theorem StoRow.ext {w w':World} {b o:Nat} {s:Sto} (h:StoRow w b o s) (hx:Ext w w'):StoRow w' b o s :=
 ⟨hx.cell h.r0,hx.cell h.r1,hx.cell h.r2⟩
def RdSt (w:World) (A:Option Addr) (l:List Sto):Prop:=l≠[]->∃ b o,A=some ⟨b,o,none⟩∧∀ q (h:q < l.length),StoRow w b (o+q * 3) l[q]
theorem RdSt.ext {w w':World} {A:Option Addr} {l:List Sto} (h:RdSt w A l) (hx:Ext w w'):RdSt w' A l:=fun hn=>by
 obtain⟨b,o,e,k⟩:=h hn
 exact⟨b,o,e,fun i hi=>(k i hi).ext hx⟩
abbrev nedV (n:Ned) (A:Option Addr) (c:Nat):Value:=.agg #[.string n.name,.slice A n.fr.length c]
structure NedRow (w:World) (b o:Nat) (n:Ned) (A:Option Addr) (c:Nat):Prop where
 r0:w.cell? ⟨b,o,none⟩=some (.string n.name)
 r1:w.cell? ⟨b,o+1,none⟩=some (.slice A n.fr.length c)
 has:RdS w A n.fr
theorem NedRow.ext {w w':World} {b o:Nat} {n:Ned} {A:Option Addr} {c:Nat} (h:NedRow w b o n A c) (hx:Ext w w'):NedRow w' b o n A c :=
 ⟨hx.cell h.r0,hx.cell h.r1,h.has.ext hx⟩
def RdN (w:World) (A:Option Addr) (l:List Ned):Prop:=l≠[]->∃ b o,A=some ⟨b,o,none⟩∧∀ q (h:q < l.length),∃ A c,NedRow w b (o+q * 2) l[q] A c
theorem RdN.ext {w w':World} {A:Option Addr} {l:List Ned} (h:RdN w A l) (hx:Ext w w'):RdN w' A l:=fun hn=>by
 obtain⟨b,o,e,k⟩:=h hn
 exact⟨b,o,e,fun i hi=>by
  obtain⟨A,c,h⟩:=k i hi
  exact⟨A,c,h.ext hx⟩⟩
abbrev cmV (p:Cmp) (k:Int) (n x:ByteArray) (A2:Option Addr) (m c2:Nat) (A3:Option Addr) (c3:Nat) (A4:Option Addr) (c4:Nat) (A5:Option Addr) (c5:Nat):Value:=.agg #[.string p.name,.string p.title,.bool p.dfl,.bool p.alw,.int .i64 k,.string n,.string x,.slice A2 m c2,.slice A3 p.needs.length c3,.slice A4 p.items.length c4,.slice A5 p.steps.length c5]
structure CmIn (w:World) (p:Cmp) (k:Int) (n x:ByteArray) (A2:Option Addr) (m c2:Nat) (A3:Option Addr) (c3:Nat) (A4:Option Addr) (c4:Nat) (A5:Option Addr) (c5:Nat):Prop where
 wh:CdIn AnyB w p.wh (.agg #[.int .i64 k,.string n,.string x,.slice A2 m c2])
 needs:RdX w A3 p.needs
 items:RdI w A4 p.items
 steps:RdSt w A5 p.steps
 cap:p.needs.length<=c3∧p.items.length<=c4∧p.steps.length<=c5
theorem CmIn.ext {w w':World} {p:Cmp} {k:Int} {n x:ByteArray} {A2:Option Addr} {m c2:Nat} {A3:Option Addr} {c3:Nat} {A4:Option Addr} {c4:Nat} {A5:Option Addr} {c5:Nat} (h:CmIn w p k n x A2 m c2 A3 c3 A4 c4 A5 c5) (hx:Ext w w'):CmIn w' p k n x A2 m c2 A3 c3 A4 c4 A5 c5 :=
 ⟨h.wh.ext hx,h.needs.ext hx,h.items.ext hx,h.steps.ext hx,h.cap⟩
structure CmRow (w:World) (b o:Nat) (p:Cmp) (k:Int) (n x:ByteArray) (A2:Option Addr) (m c2:Nat) (A3:Option Addr) (c3:Nat) (A4:Option Addr) (c4:Nat) (A5:Option Addr) (c5:Nat):Prop where
 r0:w.cell? ⟨b,o,none⟩=some (.string p.name)
 r1:w.cell? ⟨b,o+1,none⟩=some (.string p.title)
 r2:w.cell? ⟨b,o+2,none⟩=some (.bool p.dfl)
 r3:w.cell? ⟨b,o+3,none⟩=some (.bool p.alw)
 r4:w.cell? ⟨b,o+4,none⟩=some (.int .i64 k)
 r5:w.cell? ⟨b,o+5,none⟩=some (.string n)
 r6:w.cell? ⟨b,o+6,none⟩=some (.string x)
 r7:w.cell? ⟨b,o+7,none⟩=some (.slice A2 m c2)
 r8:w.cell? ⟨b,o+8,none⟩=some (.slice A3 p.needs.length c3)
 r9:w.cell? ⟨b,o+9,none⟩=some (.slice A4 p.items.length c4)
 r10:w.cell? ⟨b,o+10,none⟩=some (.slice A5 p.steps.length c5)
 has:CmIn w p k n x A2 m c2 A3 c3 A4 c4 A5 c5
theorem CmRow.ext {w w':World} {b o:Nat} {p:Cmp} {k:Int} {n x:ByteArray} {A2:Option Addr} {m c2:Nat} {A3:Option Addr} {c3:Nat} {A4:Option Addr} {c4:Nat} {A5:Option Addr} {c5:Nat} (h:CmRow w b o p k n x A2 m c2 A3 c3 A4 c4 A5 c5) (hx:Ext w w'):CmRow w' b o p k n x A2 m c2 A3 c3 A4 c4 A5 c5 :=
 ⟨hx.cell h.r0,hx.cell h.r1,hx.cell h.r2,hx.cell h.r3,hx.cell h.r4,hx.cell h.r5,hx.cell h.r6,hx.cell h.r7,hx.cell h.r8,hx.cell h.r9,hx.cell h.r10,h.has.ext hx⟩
def RdC (w:World) (A:Option Addr) (l:List Cmp):Prop:=l≠[]->∃ b o,A=some ⟨b,o,none⟩∧∀ q (h:q < l.length),∃ k n x A2 m c2 A3 c3 A4 c4 A5 c5,CmRow w b (o+q * 11) l[q] k n x A2 m c2 A3 c3 A4 c4 A5 c5
theorem RdC.ext {w w':World} {A:Option Addr} {l:List Cmp} (h:RdC w A l) (hx:Ext w w'):RdC w' A l:=fun hn=>by
 obtain⟨b,o,e,k⟩:=h hn
 exact⟨b,o,e,fun i hi=>by
  obtain⟨k,n,x,A2,m,c2,A3,c3,A4,c4,A5,c5,h⟩:=k i hi
  exact⟨k,n,x,A2,m,c2,A3,c3,A4,c4,A5,c5,h.ext hx⟩⟩
abbrev pkV (p:Pkg) (A:Option Addr) (c:Nat) (A2:Option Addr) (c2:Nat) (A3:Option Addr) (c3:Nat) (A4:Option Addr) (c4:Nat):Value:=.agg #[.string p.name,.int .i64 p.vv.a1,.int .i64 p.vv.a2,.int .i64 p.vv.a3,.string p.vv.a,.string p.title,.slice A p.needs.length c,.slice A2 p.bars.length c2,.slice A3 p.comps.length c3,.slice A4 p.moves.length c4]
structure PkIn (w:World) (p:Pkg) (A:Option Addr) (c:Nat) (A2:Option Addr) (c2:Nat) (A3:Option Addr) (c3:Nat) (A4:Option Addr) (c4:Nat):Prop where
 needs:RdN w A p.needs
 bars:RdN w A2 p.bars
 comps:RdC w A3 p.comps
 moves:RdM w A4 p.moves
 cap:p.needs.length<=c∧p.bars.length<=c2∧p.comps.length<=c3∧p.moves.length<=c4
theorem PkIn.ext {w w':World} {p:Pkg} {A:Option Addr} {c:Nat} {A2:Option Addr} {c2:Nat} {A3:Option Addr} {c3:Nat} {A4:Option Addr} {c4:Nat} (h:PkIn w p A c A2 c2 A3 c3 A4 c4) (hx:Ext w w'):PkIn w' p A c A2 c2 A3 c3 A4 c4 :=
 ⟨h.needs.ext hx,h.bars.ext hx,h.comps.ext hx,h.moves.ext hx,h.cap⟩
structure PkRow (w:World) (b o:Nat) (p:Pkg) (A:Option Addr) (c:Nat) (A2:Option Addr) (c2:Nat) (A3:Option Addr) (c3:Nat) (A4:Option Addr) (c4:Nat):Prop where
 r0:w.cell? ⟨b,o,none⟩=some (.string p.name)
 r1:w.cell? ⟨b,o+1,none⟩=some (.int .i64 p.vv.a1)
 r2:w.cell? ⟨b,o+2,none⟩=some (.int .i64 p.vv.a2)
 r3:w.cell? ⟨b,o+3,none⟩=some (.int .i64 p.vv.a3)
 r4:w.cell? ⟨b,o+4,none⟩=some (.string p.vv.a)
 r5:w.cell? ⟨b,o+5,none⟩=some (.string p.title)
 r6:w.cell? ⟨b,o+6,none⟩=some (.slice A p.needs.length c)
 r7:w.cell? ⟨b,o+7,none⟩=some (.slice A2 p.bars.length c2)
 r8:w.cell? ⟨b,o+8,none⟩=some (.slice A3 p.comps.length c3)
 r9:w.cell? ⟨b,o+9,none⟩=some (.slice A4 p.moves.length c4)
 has:PkIn w p A c A2 c2 A3 c3 A4 c4
theorem PkRow.ext {w w':World} {b o:Nat} {p:Pkg} {A:Option Addr} {c:Nat} {A2:Option Addr} {c2:Nat} {A3:Option Addr} {c3:Nat} {A4:Option Addr} {c4:Nat} (h:PkRow w b o p A c A2 c2 A3 c3 A4 c4) (hx:Ext w w'):PkRow w' b o p A c A2 c2 A3 c3 A4 c4 :=
 ⟨hx.cell h.r0,hx.cell h.r1,hx.cell h.r2,hx.cell h.r3,hx.cell h.r4,hx.cell h.r5,hx.cell h.r6,hx.cell h.r7,hx.cell h.r8,hx.cell h.r9,h.has.ext hx⟩
def RdK (w:World) (A:Option Addr) (l:List Pkg):Prop:=l≠[]->∃ b o,A=some ⟨b,o,none⟩∧∀ q (h:q < l.length),∃ A c A2 c2 A3 c3 A4 c4,PkRow w b (o+q * 10) l[q] A c A2 c2 A3 c3 A4 c4
theorem RdK.ext {w w':World} {A:Option Addr} {l:List Pkg} (h:RdK w A l) (hx:Ext w w'):RdK w' A l:=fun hn=>by
 obtain⟨b,o,e,k⟩:=h hn
 exact⟨b,o,e,fun i hi=>by
  obtain⟨A,c,A2,c2,A3,c3,A4,c4,h⟩:=k i hi
  exact⟨A,c,A2,c2,A3,c3,A4,c4,h.ext hx⟩⟩
structure SmallI (x:Itm):Prop where
 path:x.path.size<=2097152
 data:x.data.size<=2097152
 key:x.key.size<=2097152
 val:x.val.size<=2097152
 sn:x.sn.size<=2097152
 sp:x.sp.size<=2097152
structure SmallN (n:Ned):Prop where
 name:n.name.size<=2097152
 fr:SmallS n.fr
 len:n.fr.length<=2097152
structure SmallCm (p:Cmp):Prop where
 name:p.name.size<=2097152
 title:p.title.size<=2097152
 wh:SmallC p.wh
 cnt:cnt p.wh<=100000000
 needs:∀ x∈p.needs,x.size<=2097152
 nlen:p.needs.length<=2097152
 items:∀ x∈p.items,SmallI x
 ilen:p.items.length<=2097152
 steps:∀ s∈p.steps,s.name.size<=2097152∧s.val.size<=2097152
 slen:p.steps.length<=2097152
structure SmallP (p:Pkg):Prop where
 name:p.name.size<=2097152
 vv:p.vv.a.size<=2097152
 title:p.title.size<=2097152
 needs:∀ n∈p.needs,SmallN n
 nlen:p.needs.length<=2097152
 bars:∀ n∈p.bars,SmallN n
 blen:p.bars.length<=2097152
 comps:∀ c∈p.comps,SmallCm c
 clen:p.comps.length<=2097152
 moves:∀ m∈p.moves,SmallM m
 mlen:p.moves.length<=2097152
 all:(itemsL p.comps).length<=2097152
 bytes:bytesOf (itemsL p.comps)<=2097152
end
section
open Go.RowKit
def findN (n:Nat) (p:Nat->Bool):Int:=match (List.range n).find? p with|some k=>(k:Int)|none=>-1
def anyN (n:Nat) (p:Nat->Bool):Bool:=(List.range n).any p
theorem findN_at {n k:Nat} {p:Nat->Bool} (hk:k < n) (h0:∀ j,j < k->p j=false) (h:p k=true):findN n p=k:=by
 have e:(List.range n).find? p=some k:=by
  rw[List.find?_eq_some_iff_append]
  refine⟨h,List.range k,(List.range (n - k - 1)).map fun i=>k+(i+1),?_,fun a ha=>by rw[h0 a (List.mem_range.1 ha)];rfl⟩
  have e1:n=k+((n - k - 1)+1):=by omega
  rw[e1,List.range_add,List.range_succ_eq_map]
  simp[Function.comp_def]
 unfold findN;rw[e]
theorem findN_none {n:Nat} {p:Nat->Bool} (h0:∀ j,j < n->p j=false):findN n p=-1:=by
 have e:(List.range n).find? p=none:=by
  rw[List.find?_eq_none]
  exact fun a ha=>by rw[h0 a (List.mem_range.1 ha)];decide
 unfold findN;rw[e]
theorem findN_any (n:Nat) (p:Nat->Bool):decide ((0:Int)<=findN n p)=anyN n p:=by
 unfold findN anyN
 cases h:(List.range n).find? p with
 | none =>
   rw[List.find?_eq_none] at h
   rw[decide_eq_false (by decide),Eq.comm,List.any_eq_false]
   exact h
 | some k =>
   have h1:=List.find?_some h
   have h2:=List.mem_of_find?_eq_some h
   rw[decide_eq_true (show (0:Int)<=(k:Int) by omega),Eq.comm,List.any_eq_true]
   exact⟨k,h2,h1⟩
theorem allB_next {p:Nat->Bool} {k:Nat} (h0:∀ j,j < k->p j=false) (h:p k=false):∀ j,j < k+1->p j=false:=fun j hj=>by
 rcases Nat.lt_or_ge j k with h1|h1
 ·exact h0 j h1
 ·obtain rfl:j=k:=by omega
  exact h
theorem load_cellsT {t:TypeId} {z:Nat} {w:World} (h1:(isAgg t).run Tryz.prog w=.ok true w) (h2:(sizeOf t).run Tryz.prog w=.ok z w) {b i:Nat} (cs:List Value) (hl:cs.length=z) (h:∀ j v,cs[j]?=some v->w.cell? ⟨b,i+j,none⟩=some v) :
 (loadVar t ⟨b,i,none⟩).run Tryz.prog w=.ok (.agg cs.toArray) w:=by
 have h3:(loadCells ⟨b,i,none⟩ z).run Tryz.prog w=.ok cs.toArray w:=by
  rw[<-hl]
  refine run_loadCells_list w ⟨b,i,none⟩ cs fun j v hj=>?_
  have hadd:(⟨b,i,none⟩:Addr).add j=⟨b,i+j,none⟩:=by unfold Addr.add;split<;>simp_all
  rw[hadd]
  exact h j v hj
 simp only[loadVar,Sem.run_bind,h1,Result.andThen,if_true,h2,h3,Sem.run_pure]
theorem load_Ned {w:World} {b o:Nat} {n:Ned} {A:Option Addr} {c:Nat} (h:NedRow w b o n A c):(loadVar 253 ⟨b,o,none⟩).run Tryz.prog w=.ok (nedV n A c) w:=by
 refine load_cellsT (z:=2) (by kernel_rfl) (by kernel_rfl) [.string n.name,.slice A n.fr.length c] rfl fun j v hj=>?_
 match j,hj with
 | 0,hj=>injection hj with hj;subst hj;exact h.r0
 | 1,hj=>injection hj with hj;subst hj;exact h.r1
 | j+2,hj=>simp at hj
theorem load_Cm {w:World} {b o:Nat} {p:Cmp} {k:Int} {n x:ByteArray} {A2:Option Addr} {m c2:Nat} {A3:Option Addr} {c3:Nat} {A4:Option Addr} {c4:Nat} {A5:Option Addr} {c5:Nat} (h:CmRow w b o p k n x A2 m c2 A3 c3 A4 c4 A5 c5):(loadVar 82 ⟨b,o,none⟩).run Tryz.prog w=.ok (cmV p k n x A2 m c2 A3 c3 A4 c4 A5 c5) w:=by
 refine load_cellsT (z:=11) (by kernel_rfl) (by kernel_rfl) [.string p.name,.string p.title,.bool p.dfl,.bool p.alw,.int .i64 k,.string n,.string x,.slice A2 m c2,.slice A3 p.needs.length c3,.slice A4 p.items.length c4,.slice A5 p.steps.length c5] rfl fun j v hj=>?_
 match j,hj with
 | 0,hj=>injection hj with hj;subst hj;exact h.r0
 | 1,hj=>injection hj with hj;subst hj;exact h.r1
 | 2,hj=>injection hj with hj;subst hj;exact h.r2
 | 3,hj=>injection hj with hj;subst hj;exact h.r3
 | 4,hj=>injection hj with hj;subst hj;exact h.r4
 | 5,hj=>injection hj with hj;subst hj;exact h.r5
 | 6,hj=>injection hj with hj;subst hj;exact h.r6
 | 7,hj=>injection hj with hj;subst hj;exact h.r7
 | 8,hj=>injection hj with hj;subst hj;exact h.r8
 | 9,hj=>injection hj with hj;subst hj;exact h.r9
 | 10,hj=>injection hj with hj;subst hj;exact h.r10
 | j+11,hj=>simp at hj
theorem load_It {w:World} {b o:Nat} {x:Itm} (h:ItRow w b o x):(loadVar 104 ⟨b,o,none⟩).run Tryz.prog w=.ok (itmV x) w:=by
 refine load_cellsT (z:=10) (by kernel_rfl) (by kernel_rfl) [.int .i64 x.kind,.string x.path,.string x.data,.bool x.runs,.string x.key,.string x.val,.string x.sn,.string x.sp,.bool x.auto,.bool x.on] rfl fun j v hj=>?_
 match j,hj with
 | 0,hj=>injection hj with hj;subst hj;exact h.r0
 | 1,hj=>injection hj with hj;subst hj;exact h.r1
 | 2,hj=>injection hj with hj;subst hj;exact h.r2
 | 3,hj=>injection hj with hj;subst hj;exact h.r3
 | 4,hj=>injection hj with hj;subst hj;exact h.r4
 | 5,hj=>injection hj with hj;subst hj;exact h.r5
 | 6,hj=>injection hj with hj;subst hj;exact h.r6
 | 7,hj=>injection hj with hj;subst hj;exact h.r7
 | 8,hj=>injection hj with hj;subst hj;exact h.r8
 | 9,hj=>injection hj with hj;subst hj;exact h.r9
 | j+10,hj=>simp at hj
theorem load_Sto {w:World} {b o:Nat} {s:Sto} (h:StoRow w b o s):(loadVar 108 ⟨b,o,none⟩).run Tryz.prog w=.ok (stoV s) w:=by
 refine load_cellsT (z:=3) (by kernel_rfl) (by kernel_rfl) [.int .i64 s.kind,.string s.name,.string s.val] rfl fun j v hj=>?_
 match j,hj with
 | 0,hj=>injection hj with hj;subst hj;exact h.r0
 | 1,hj=>injection hj with hj;subst hj;exact h.r1
 | 2,hj=>injection hj with hj;subst hj;exact h.r2
 | j+3,hj=>simp at hj
set_option maxHeartbeats 4000000 in
set_option maxRecDepth 100000 in
theorem IndexFuncNed_any (A:Option Addr) (n c b o:Nat) (V:Nat->Value) (f:FuncId) (cp:Array Value) (p:Nat->Bool) (w:World) (hA:0 < n->A=some ⟨b,o,none⟩) (hl:n<=2097152)
 (hen:∀ xs w,Sem.run Tryz.prog (callFunc f xs) w=.ok (.enter f xs) w)
 (hrow:∀ k,k < n->∀ W,Ext w W->(loadVar 253 ⟨b,o+k * 2,none⟩).run Tryz.prog W=.ok (V k) W)
 (hp:∀ k,k < n->∀ W,Ext w W->Calls Tryz.prog f (#[V k]++cp) W fun e w'=>e=.returned (.bool (p k))∧Ext W w') :
 Calls Tryz.prog 264 #[.slice A n c,.func (.func f) #[] cp] w fun e w'=>e=.returned (.int .i64 (findN n p))∧Ext w w':=by
 have HP:=Hy hp
 have HR:=Hy hrow
 have HF:=Hy (fun k (hk:k < n) h0 h=>findN_at (p:=p) hk h0 h)
 have HN:=Hy (fun h0=>findN_none (n:=n) (p:=p) h0)
 generalize findN n p=Z at *
 clear hp hrow
 go_enter Tryz.func264,Tryz.ntmps264
 go_wp2
 go_loopw [8] (fun i wr=>∃ k:Nat,k<=n∧i=.int .i64 k∧Hid (∀ j,j < k->p j=false)∧Ext w wr) (fun i _=>n - (intOf i).toNat)
 case atStart=>exact⟨0,Nat.zero_le _,rfl,fun j h=>absurd h (Nat.not_lt_zero _),Ext.refl _⟩
 case round =>
  obtain⟨k,hk,rfl,HALL,hxr⟩:=hrel
  by_cases hlt:k < n
  ·obtain rfl:=hA (by omega)
   have HL:=HR.out k hlt _ hxr
   have HC:=Hy (HP.out k hlt)
   have HB:=Hy (show p k=true->Z=k from HF.out k hlt HALL.out)
   have HX:=Hy (show p k=false->∀ j,j < k+1->p j=false from allB_next HALL.out)
   generalize p k=r at *
   generalize V k=v at *
   go_wp2_with (refine wpList_load_at rfl _ _ rfl _ rfl _ HL ?_)
   refine (HC.out _ hxr).mono ?_
   rintro e w1 ⟨rfl,hx1⟩
   clear HL
   cases r
   ·have H1:=Hy (HX.out rfl)
    go_wp2
    go_roundw
    case rel=>exact⟨k+1,by omega,by go_num,H1.out,hxr.trans hx1⟩
    case measure=>simp[intOf];omega
   ·have H1:=Hy (HB.out rfl)
    go_wp2
    go_ret
    exact⟨ret_int H1.out.symm,hxr.trans hx1⟩
  ·obtain rfl:k=n:=by omega
   have H1:=Hy (HN.out HALL.out)
   go_wp2
   go_ret
   exact⟨ret_int H1.out.symm,hxr⟩
set_option maxHeartbeats 1000000 in
theorem ContainsFuncNed_any (A:Option Addr) (n c b o:Nat) (V:Nat->Value) (f:FuncId) (cp:Array Value) (p:Nat->Bool) (w:World) (hA:0 < n->A=some ⟨b,o,none⟩) (hl:n<=2097152)
 (hen:∀ xs w,Sem.run Tryz.prog (callFunc f xs) w=.ok (.enter f xs) w)
 (hrow:∀ k,k < n->∀ W,Ext w W->(loadVar 253 ⟨b,o+k * 2,none⟩).run Tryz.prog W=.ok (V k) W)
 (hp:∀ k,k < n->∀ W,Ext w W->Calls Tryz.prog f (#[V k]++cp) W fun e w'=>e=.returned (.bool (p k))∧Ext W w') :
 Calls Tryz.prog 193 #[.slice A n c,.func (.func f) #[] cp] w fun e w'=>e=.returned (.bool (anyN n p))∧Ext w w':=by
 have CI:=Hy (IndexFuncNed_any A n c b o V f cp p w hA hl hen hrow hp)
 have HZ:=Hy (findN_any n p)
 generalize findN n p=z at *
 generalize anyN n p=r at *
 clear hen hrow hp hA
 go_enter Tryz.func193,Tryz.ntmps193
 go_wp2_with fail
 refine CI.out.mono ?_
 rintro e w1 ⟨rfl,hx1⟩
 go_wp2
 go_ret
 exact⟨ret_bool (by rw[<-HZ.out]),hx1⟩
set_option maxHeartbeats 4000000 in
set_option maxRecDepth 100000 in
theorem IndexFuncCm_any (A:Option Addr) (n c b o:Nat) (V:Nat->Value) (f:FuncId) (cp:Array Value) (p:Nat->Bool) (w:World) (hA:0 < n->A=some ⟨b,o,none⟩) (hl:n<=2097152)
 (hen:∀ xs w,Sem.run Tryz.prog (callFunc f xs) w=.ok (.enter f xs) w)
 (hrow:∀ k,k < n->∀ W,Ext w W->(loadVar 82 ⟨b,o+k * 11,none⟩).run Tryz.prog W=.ok (V k) W)
 (hp:∀ k,k < n->∀ W,Ext w W->Calls Tryz.prog f (#[V k]++cp) W fun e w'=>e=.returned (.bool (p k))∧Ext W w') :
 Calls Tryz.prog 44 #[.slice A n c,.func (.func f) #[] cp] w fun e w'=>e=.returned (.int .i64 (findN n p))∧Ext w w':=by
 have HP:=Hy hp
 have HR:=Hy hrow
 have HF:=Hy (fun k (hk:k < n) h0 h=>findN_at (p:=p) hk h0 h)
 have HN:=Hy (fun h0=>findN_none (n:=n) (p:=p) h0)
 generalize findN n p=Z at *
 clear hp hrow
 go_enter Tryz.func44,Tryz.ntmps44
 go_wp2
 go_loopw [8] (fun i wr=>∃ k:Nat,k<=n∧i=.int .i64 k∧Hid (∀ j,j < k->p j=false)∧Ext w wr) (fun i _=>n - (intOf i).toNat)
 case atStart=>exact⟨0,Nat.zero_le _,rfl,fun j h=>absurd h (Nat.not_lt_zero _),Ext.refl _⟩
 case round =>
  obtain⟨k,hk,rfl,HALL,hxr⟩:=hrel
  by_cases hlt:k < n
  ·obtain rfl:=hA (by omega)
   have HL:=HR.out k hlt _ hxr
   have HC:=Hy (HP.out k hlt)
   have HB:=Hy (show p k=true->Z=k from HF.out k hlt HALL.out)
   have HX:=Hy (show p k=false->∀ j,j < k+1->p j=false from allB_next HALL.out)
   generalize p k=r at *
   generalize V k=v at *
   go_wp2_with (refine wpList_load_at rfl _ _ rfl _ rfl _ HL ?_)
   refine (HC.out _ hxr).mono ?_
   rintro e w1 ⟨rfl,hx1⟩
   clear HL
   cases r
   ·have H1:=Hy (HX.out rfl)
    go_wp2
    go_roundw
    case rel=>exact⟨k+1,by omega,by go_num,H1.out,hxr.trans hx1⟩
    case measure=>simp[intOf];omega
   ·have H1:=Hy (HB.out rfl)
    go_wp2
    go_ret
    exact⟨ret_int H1.out.symm,hxr.trans hx1⟩
  ·obtain rfl:k=n:=by omega
   have H1:=Hy (HN.out HALL.out)
   go_wp2
   go_ret
   exact⟨ret_int H1.out.symm,hxr⟩
set_option maxHeartbeats 1000000 in
theorem ContainsFuncCm_any (A:Option Addr) (n c b o:Nat) (V:Nat->Value) (f:FuncId) (cp:Array Value) (p:Nat->Bool) (w:World) (hA:0 < n->A=some ⟨b,o,none⟩) (hl:n<=2097152)
 (hen:∀ xs w,Sem.run Tryz.prog (callFunc f xs) w=.ok (.enter f xs) w)
 (hrow:∀ k,k < n->∀ W,Ext w W->(loadVar 82 ⟨b,o+k * 11,none⟩).run Tryz.prog W=.ok (V k) W)
 (hp:∀ k,k < n->∀ W,Ext w W->Calls Tryz.prog f (#[V k]++cp) W fun e w'=>e=.returned (.bool (p k))∧Ext W w') :
 Calls Tryz.prog 128 #[.slice A n c,.func (.func f) #[] cp] w fun e w'=>e=.returned (.bool (anyN n p))∧Ext w w':=by
 have CI:=Hy (IndexFuncCm_any A n c b o V f cp p w hA hl hen hrow hp)
 have HZ:=Hy (findN_any n p)
 generalize findN n p=z at *
 generalize anyN n p=r at *
 clear hen hrow hp hA
 go_enter Tryz.func128,Tryz.ntmps128
 go_wp2_with fail
 refine CI.out.mono ?_
 rintro e w1 ⟨rfl,hx1⟩
 go_wp2
 go_ret
 exact⟨ret_bool (by rw[<-HZ.out]),hx1⟩
set_option maxHeartbeats 4000000 in
set_option maxRecDepth 100000 in
theorem IndexFuncIt_any (A:Option Addr) (n c b o:Nat) (V:Nat->Value) (f:FuncId) (cp:Array Value) (p:Nat->Bool) (w:World) (hA:0 < n->A=some ⟨b,o,none⟩) (hl:n<=2097152)
 (hen:∀ xs w,Sem.run Tryz.prog (callFunc f xs) w=.ok (.enter f xs) w)
 (hrow:∀ k,k < n->∀ W,Ext w W->(loadVar 104 ⟨b,o+k * 10,none⟩).run Tryz.prog W=.ok (V k) W)
 (hp:∀ k,k < n->∀ W,Ext w W->Calls Tryz.prog f (#[V k]++cp) W fun e w'=>e=.returned (.bool (p k))∧Ext W w') :
 Calls Tryz.prog 269 #[.slice A n c,.func (.func f) #[] cp] w fun e w'=>e=.returned (.int .i64 (findN n p))∧Ext w w':=by
 have HP:=Hy hp
 have HR:=Hy hrow
 have HF:=Hy (fun k (hk:k < n) h0 h=>findN_at (p:=p) hk h0 h)
 have HN:=Hy (fun h0=>findN_none (n:=n) (p:=p) h0)
 generalize findN n p=Z at *
 clear hp hrow
 go_enter Tryz.func269,Tryz.ntmps269
 go_wp2
 go_loopw [8] (fun i wr=>∃ k:Nat,k<=n∧i=.int .i64 k∧Hid (∀ j,j < k->p j=false)∧Ext w wr) (fun i _=>n - (intOf i).toNat)
 case atStart=>exact⟨0,Nat.zero_le _,rfl,fun j h=>absurd h (Nat.not_lt_zero _),Ext.refl _⟩
 case round =>
  obtain⟨k,hk,rfl,HALL,hxr⟩:=hrel
  by_cases hlt:k < n
  ·obtain rfl:=hA (by omega)
   have HL:=HR.out k hlt _ hxr
   have HC:=Hy (HP.out k hlt)
   have HB:=Hy (show p k=true->Z=k from HF.out k hlt HALL.out)
   have HX:=Hy (show p k=false->∀ j,j < k+1->p j=false from allB_next HALL.out)
   generalize p k=r at *
   generalize V k=v at *
   go_wp2_with (refine wpList_load_at rfl _ _ rfl _ rfl _ HL ?_)
   refine (HC.out _ hxr).mono ?_
   rintro e w1 ⟨rfl,hx1⟩
   clear HL
   cases r
   ·have H1:=Hy (HX.out rfl)
    go_wp2
    go_roundw
    case rel=>exact⟨k+1,by omega,by go_num,H1.out,hxr.trans hx1⟩
    case measure=>simp[intOf];omega
   ·have H1:=Hy (HB.out rfl)
    go_wp2
    go_ret
    exact⟨ret_int H1.out.symm,hxr.trans hx1⟩
  ·obtain rfl:k=n:=by omega
   have H1:=Hy (HN.out HALL.out)
   go_wp2
   go_ret
   exact⟨ret_int H1.out.symm,hxr⟩
set_option maxHeartbeats 1000000 in
theorem ContainsFuncIt_any (A:Option Addr) (n c b o:Nat) (V:Nat->Value) (f:FuncId) (cp:Array Value) (p:Nat->Bool) (w:World) (hA:0 < n->A=some ⟨b,o,none⟩) (hl:n<=2097152)
 (hen:∀ xs w,Sem.run Tryz.prog (callFunc f xs) w=.ok (.enter f xs) w)
 (hrow:∀ k,k < n->∀ W,Ext w W->(loadVar 104 ⟨b,o+k * 10,none⟩).run Tryz.prog W=.ok (V k) W)
 (hp:∀ k,k < n->∀ W,Ext w W->Calls Tryz.prog f (#[V k]++cp) W fun e w'=>e=.returned (.bool (p k))∧Ext W w') :
 Calls Tryz.prog 213 #[.slice A n c,.func (.func f) #[] cp] w fun e w'=>e=.returned (.bool (anyN n p))∧Ext w w':=by
 have CI:=Hy (IndexFuncIt_any A n c b o V f cp p w hA hl hen hrow hp)
 have HZ:=Hy (findN_any n p)
 generalize findN n p=z at *
 generalize anyN n p=r at *
 clear hen hrow hp hA
 go_enter Tryz.func213,Tryz.ntmps213
 go_wp2_with fail
 refine CI.out.mono ?_
 rintro e w1 ⟨rfl,hx1⟩
 go_wp2
 go_ret
 exact⟨ret_bool (by rw[<-HZ.out]),hx1⟩
end
section
open Go.ChangeShapes Go.WideShapes Go.ChangeAt Go.RowKit Go.WideElems Go.Joins
theorem opens_sliceK {T E:TypeId} {α:Type} [Inhabited α] {R:World->α->List Value->Prop} {bk:α->Nat} {sz:Nat} (hT:Tryz.prog.underlying T=some (.slice E)) (hsz:Tryz.prog.cellsOf E=sz) (h0:0 < sz) (hE:Opens E R bk) :
 Opens T (fun W (l:List α) cs=>∃ A c,cs=[.slice A l.length c]∧l.length<=c∧RowOf R sz W A l) (fun l=>(l.map bk).sum+1):=fun H enc W fuel cs x h=>by
 rcases Deep.open_slice hT h with ⟨rfl,rfl⟩|⟨a,len,cap,m,n,D,Pl,rfl,_,hl,_,hm,rfl,hx⟩
 ·exact⟨[],⟨none,0,rfl,Nat.le_refl _,fun h=>absurd rfl h⟩,by simp[Rows.uptoBulk]⟩
 ·obtain⟨l,⟨A,c,e,hr⟩,hb⟩:=opens_slice hT hsz h0 hE H enc W fuel _ _ h
  injection e with e
  injection e with e1 e2 e3
  subst e1 e3
  exact⟨l,⟨_,_,by rw[<-e2],by rw[<-e2];exact hl,hr⟩,hb⟩
instance inhKItm:Inhabited Itm:=⟨⟨0,⟨#[]⟩,⟨#[]⟩,false,⟨#[]⟩,⟨#[]⟩,⟨#[]⟩,⟨#[]⟩,false,false⟩⟩
instance inhKSto:Inhabited Sto:=⟨⟨0,⟨#[]⟩,⟨#[]⟩⟩⟩
instance inhKNed:Inhabited Ned:=⟨⟨⟨#[]⟩,[]⟩⟩
instance inhKCmp:Inhabited Cmp:=⟨zeroP⟩
instance inhKPkg:Inhabited Pkg:=⟨⟨⟨#[]⟩,default,⟨#[]⟩,[],[],[],[]⟩⟩
set_option maxRecDepth 100000 in
theorem opens_file:Opens 63 (fun _ (f:ByteArray × ByteArray × Bool) cs=>cs=[.string f.1,.string f.2.1,.bool f.2.2]) (fun f=>f.1.size+f.2.1.size+3):=fun H enc W fuel cs x h=>by
 obtain⟨xs,n,_,rfl,hl,hlen,hf⟩:=DataW.trod_struct Tryz.underlying63 h
 have hc:Tryz.prog.cellsOf 63=3:=by kernel_rfl
 rw[hc] at hl
 match cs,hl,xs,hlen with
 | [c0,c1,c2],_,[y0,y1,y2],_ =>
   have h0:=hf 0 _ rfl
   replace h0:DataW.trod enc Tryz.prog W 0 (fun _=>true) true n 9 (([c0,c1,c2].drop 0).take (Tryz.prog.cellsOf 9))=some y0:=h0
   rw[show Tryz.prog.cellsOf 9=1 by kernel_rfl] at h0
   obtain⟨a,e0,b0⟩:=opens_string Tryz.underlying9 H enc W n _ _ h0
   have h1:=hf 1 _ rfl
   replace h1:DataW.trod enc Tryz.prog W 0 (fun _=>true) true n 9 (([c0,c1,c2].drop 1).take (Tryz.prog.cellsOf 9))=some y1:=h1
   rw[show Tryz.prog.cellsOf 9=1 by kernel_rfl] at h1
   obtain⟨b,e1,b1⟩:=opens_string Tryz.underlying9 H enc W n _ _ h1
   have h2:=hf 2 _ rfl
   replace h2:DataW.trod enc Tryz.prog W 0 (fun _=>true) true n 4 (([c0,c1,c2].drop 2).take (Tryz.prog.cellsOf 4))=some y2:=h2
   rw[show Tryz.prog.cellsOf 4=1 by kernel_rfl] at h2
   obtain⟨c,e2,b2⟩:=opens_bool Tryz.underlying4 H enc W n _ _ h2
   simp at e0 e1 e2
   subst e0
   subst e1
   subst e2
   exact⟨⟨a,b,c⟩,rfl,by dsimp only at b0 b1 b2 ⊢;simp only[List.map_cons,List.map_nil,Rows.uptoBulk,Rows.uptoBulkAll];omega⟩
set_option maxRecDepth 100000 in
theorem opens_setting2:Opens 65 (fun _ (f:ByteArray × ByteArray) cs=>cs=[.string f.1,.string f.2]) (fun f=>f.1.size+f.2.size+2):=fun H enc W fuel cs x h=>by
 obtain⟨xs,n,_,rfl,hl,hlen,hf⟩:=DataW.trod_struct Tryz.underlying65 h
 have hc:Tryz.prog.cellsOf 65=2:=by kernel_rfl
 rw[hc] at hl
 match cs,hl,xs,hlen with
 | [c0,c1],_,[y0,y1],_ =>
   have h0:=hf 0 _ rfl
   replace h0:DataW.trod enc Tryz.prog W 0 (fun _=>true) true n 9 (([c0,c1].drop 0).take (Tryz.prog.cellsOf 9))=some y0:=h0
   rw[show Tryz.prog.cellsOf 9=1 by kernel_rfl] at h0
   obtain⟨a,e0,b0⟩:=opens_string Tryz.underlying9 H enc W n _ _ h0
   have h1:=hf 1 _ rfl
   replace h1:DataW.trod enc Tryz.prog W 0 (fun _=>true) true n 9 (([c0,c1].drop 1).take (Tryz.prog.cellsOf 9))=some y1:=h1
   rw[show Tryz.prog.cellsOf 9=1 by kernel_rfl] at h1
   obtain⟨b,e1,b1⟩:=opens_string Tryz.underlying9 H enc W n _ _ h1
   simp at e0 e1
   subst e0
   subst e1
   exact⟨⟨a,b⟩,rfl,by dsimp only at b0 b1 ⊢;simp only[List.map_cons,List.map_nil,Rows.uptoBulk,Rows.uptoBulkAll];omega⟩
set_option maxRecDepth 100000 in
theorem opens_service:Opens 67 (fun _ (f:ByteArray × ByteArray × Bool × Bool) cs=>cs=[.string f.1,.string f.2.1,.bool f.2.2.1,.bool f.2.2.2]) (fun f=>f.1.size+f.2.1.size+4):=fun H enc W fuel cs x h=>by
 obtain⟨xs,n,_,rfl,hl,hlen,hf⟩:=DataW.trod_struct Tryz.underlying67 h
 have hc:Tryz.prog.cellsOf 67=4:=by kernel_rfl
 rw[hc] at hl
 match cs,hl,xs,hlen with
 | [c0,c1,c2,c3],_,[y0,y1,y2,y3],_ =>
   have h0:=hf 0 _ rfl
   replace h0:DataW.trod enc Tryz.prog W 0 (fun _=>true) true n 9 (([c0,c1,c2,c3].drop 0).take (Tryz.prog.cellsOf 9))=some y0:=h0
   rw[show Tryz.prog.cellsOf 9=1 by kernel_rfl] at h0
   obtain⟨a,e0,b0⟩:=opens_string Tryz.underlying9 H enc W n _ _ h0
   have h1:=hf 1 _ rfl
   replace h1:DataW.trod enc Tryz.prog W 0 (fun _=>true) true n 9 (([c0,c1,c2,c3].drop 1).take (Tryz.prog.cellsOf 9))=some y1:=h1
   rw[show Tryz.prog.cellsOf 9=1 by kernel_rfl] at h1
   obtain⟨b,e1,b1⟩:=opens_string Tryz.underlying9 H enc W n _ _ h1
   have h2:=hf 2 _ rfl
   replace h2:DataW.trod enc Tryz.prog W 0 (fun _=>true) true n 4 (([c0,c1,c2,c3].drop 2).take (Tryz.prog.cellsOf 4))=some y2:=h2
   rw[show Tryz.prog.cellsOf 4=1 by kernel_rfl] at h2
   obtain⟨c,e2,b2⟩:=opens_bool Tryz.underlying4 H enc W n _ _ h2
   have h3:=hf 3 _ rfl
   replace h3:DataW.trod enc Tryz.prog W 0 (fun _=>true) true n 4 (([c0,c1,c2,c3].drop 3).take (Tryz.prog.cellsOf 4))=some y3:=h3
   rw[show Tryz.prog.cellsOf 4=1 by kernel_rfl] at h3
   obtain⟨d,e3,b3⟩:=opens_bool Tryz.underlying4 H enc W n _ _ h3
   simp at e0 e1 e2 e3
   subst e0
   subst e1
   subst e2
   subst e3
   exact⟨⟨a,b,c,d⟩,rfl,by dsimp only at b0 b1 b2 b3 ⊢;simp only[List.map_cons,List.map_nil,Rows.uptoBulk,Rows.uptoBulkAll];omega⟩
def itBk (x:Itm):Nat:=x.path.size+x.data.size+x.key.size+x.val.size+x.sn.size+x.sp.size+10
set_option maxRecDepth 100000 in
theorem opens_item:Opens 104 (fun _ (x:Itm) cs=>cs=[.int .i64 x.kind,.string x.path,.string x.data,.bool x.runs,.string x.key,.string x.val,.string x.sn,.string x.sp,.bool x.auto,.bool x.on]) itBk:=fun H enc W fuel cs x h=>by
 obtain⟨xs,n,_,rfl,hl,hlen,hf⟩:=DataW.trod_struct Tryz.underlying104 h
 have hc:Tryz.prog.cellsOf 104=10:=by kernel_rfl
 rw[hc] at hl
 match cs,hl,xs,hlen with
 | [c0,c1,c2,c3,c4,c5,c6,c7,c8,c9],_,[y0,y1,y2,y3],_ =>
   have h0:=hf 0 _ rfl
   replace h0:DataW.trod enc Tryz.prog W 0 (fun _=>true) true n 3 (([c0,c1,c2,c3,c4,c5,c6,c7,c8,c9].drop 0).take (Tryz.prog.cellsOf 3))=some y0:=h0
   rw[show Tryz.prog.cellsOf 3=1 by kernel_rfl] at h0
   obtain⟨k,e0,b0⟩:=opens_int Tryz.underlying3 H enc W n _ _ h0
   have h1:=hf 1 _ rfl
   replace h1:DataW.trod enc Tryz.prog W 0 (fun _=>true) true n 63 (([c0,c1,c2,c3,c4,c5,c6,c7,c8,c9].drop 1).take (Tryz.prog.cellsOf 63))=some y1:=h1
   rw[show Tryz.prog.cellsOf 63=3 by kernel_rfl] at h1
   obtain⟨⟨f1,f2,f3⟩,e1,b1⟩:=opens_file H enc W n _ _ h1
   have h2:=hf 2 _ rfl
   replace h2:DataW.trod enc Tryz.prog W 0 (fun _=>true) true n 65 (([c0,c1,c2,c3,c4,c5,c6,c7,c8,c9].drop 4).take (Tryz.prog.cellsOf 65))=some y2:=h2
   rw[show Tryz.prog.cellsOf 65=2 by kernel_rfl] at h2
   obtain⟨⟨g1,g2⟩,e2,b2⟩:=opens_setting2 H enc W n _ _ h2
   have h3:=hf 3 _ rfl
   replace h3:DataW.trod enc Tryz.prog W 0 (fun _=>true) true n 67 (([c0,c1,c2,c3,c4,c5,c6,c7,c8,c9].drop 6).take (Tryz.prog.cellsOf 67))=some y3:=h3
   rw[show Tryz.prog.cellsOf 67=4 by kernel_rfl] at h3
   obtain⟨⟨s1,s2,s3,s4⟩,e3,b3⟩:=opens_service H enc W n _ _ h3
   simp at e0 e1 e2 e3
   subst e0
   obtain⟨rfl,rfl,rfl⟩:=e1
   obtain⟨rfl,rfl⟩:=e2
   obtain⟨rfl,rfl,rfl,rfl⟩:=e3
   unfold itBk
   exact⟨⟨k,f1,f2,f3,g1,g2,s1,s2,s3,s4⟩,rfl,by dsimp only at b0 b1 b2 b3 ⊢;simp only[List.map_cons,List.map_nil,Rows.uptoBulk,Rows.uptoBulkAll];omega⟩
def stBk (x:Sto):Nat:=x.name.size+x.val.size+3
set_option maxRecDepth 100000 in
theorem opens_step:Opens 108 (fun _ (x:Sto) cs=>cs=[.int .i64 x.kind,.string x.name,.string x.val]) stBk:=fun H enc W fuel cs x h=>by
 obtain⟨xs,n,_,rfl,hl,hlen,hf⟩:=DataW.trod_struct Tryz.underlying108 h
 have hc:Tryz.prog.cellsOf 108=3:=by kernel_rfl
 rw[hc] at hl
 match cs,hl,xs,hlen with
 | [c0,c1,c2],_,[y0,y1,y2],_ =>
   have h0:=hf 0 _ rfl
   replace h0:DataW.trod enc Tryz.prog W 0 (fun _=>true) true n 3 (([c0,c1,c2].drop 0).take (Tryz.prog.cellsOf 3))=some y0:=h0
   rw[show Tryz.prog.cellsOf 3=1 by kernel_rfl] at h0
   obtain⟨k,e0,b0⟩:=opens_int Tryz.underlying3 H enc W n _ _ h0
   have h1:=hf 1 _ rfl
   replace h1:DataW.trod enc Tryz.prog W 0 (fun _=>true) true n 9 (([c0,c1,c2].drop 1).take (Tryz.prog.cellsOf 9))=some y1:=h1
   rw[show Tryz.prog.cellsOf 9=1 by kernel_rfl] at h1
   obtain⟨a,e1,b1⟩:=opens_string Tryz.underlying9 H enc W n _ _ h1
   have h2:=hf 2 _ rfl
   replace h2:DataW.trod enc Tryz.prog W 0 (fun _=>true) true n 9 (([c0,c1,c2].drop 2).take (Tryz.prog.cellsOf 9))=some y2:=h2
   rw[show Tryz.prog.cellsOf 9=1 by kernel_rfl] at h2
   obtain⟨b,e2,b2⟩:=opens_string Tryz.underlying9 H enc W n _ _ h2
   simp at e0 e1 e2
   subst e0
   subst e1
   subst e2
   unfold stBk
   exact⟨⟨k,a,b⟩,rfl,by dsimp only at b0 b1 b2 ⊢;simp only[List.map_cons,List.map_nil,Rows.uptoBulk,Rows.uptoBulkAll];omega⟩
def nedBk (n:Ned):Nat:=n.name.size+(n.fr.map fun s=>s.f.a.size+s.t.a.size+10).sum+2
def NedCells (W:World) (n:Ned) (cs:List Value):Prop:=∃ A c,cs=[.string n.name,.slice A n.fr.length c]∧RdS W A n.fr
set_option maxRecDepth 100000 in
theorem opens_need:Opens 253 NedCells nedBk:=fun H enc W fuel cs x h=>by
 obtain⟨xs,n,_,rfl,hl,hlen,hf⟩:=DataW.trod_struct Tryz.underlying253 h
 have hc:Tryz.prog.cellsOf 253=2:=by kernel_rfl
 rw[hc] at hl
 match cs,hl,xs,hlen with
 | [c0,c1],_,[y0,y1],_ =>
   have h0:=hf 0 _ rfl
   replace h0:DataW.trod enc Tryz.prog W 0 (fun _=>true) true n 9 (([c0,c1].drop 0).take (Tryz.prog.cellsOf 9))=some y0:=h0
   rw[show Tryz.prog.cellsOf 9=1 by kernel_rfl] at h0
   obtain⟨a,e0,b0⟩:=opens_string Tryz.underlying9 H enc W n _ _ h0
   have h1:=hf 1 _ rfl
   replace h1:DataW.trod enc Tryz.prog W 0 (fun _=>true) true n 42 (([c0,c1].drop 1).take (Tryz.prog.cellsOf 42))=some y1:=h1
   rw[show Tryz.prog.cellsOf 42=1 by kernel_rfl] at h1
   obtain⟨fr,⟨A,c,e1,hfr⟩,b1⟩:=opens_range H enc W n _ _ h1
   simp at e0 e1
   subst e0
   subst e1
   unfold nedBk
   exact⟨⟨a,fr⟩,⟨A,c,rfl,hfr⟩,by dsimp only at b0 b1 ⊢;simp only[List.map_cons,List.map_nil,Rows.uptoBulk,Rows.uptoBulkAll];omega⟩
theorem rowOf_items {W:World} {A:Option Addr} {l:List Itm} (h:RowOf (fun _ (x:Itm) cs=>cs=[.int .i64 x.kind,.string x.path,.string x.data,.bool x.runs,.string x.key,.string x.val,.string x.sn,.string x.sp,.bool x.auto,.bool x.on]) 10 W A l):RdI W A l:=fun hne=>by
 obtain⟨b,o,rfl,hc⟩:=h hne
 refine⟨b,o,rfl,fun k hk=>?_⟩
 obtain⟨ecs,rfl,_,hj⟩:=hc k hk
 exact⟨hj 0 (by omega),hj 1 (by omega),hj 2 (by omega),hj 3 (by omega),hj 4 (by omega),hj 5 (by omega),hj 6 (by omega),hj 7 (by omega),hj 8 (by omega),hj 9 (by omega)⟩
theorem rowOf_steps {W:World} {A:Option Addr} {l:List Sto} (h:RowOf (fun _ (x:Sto) cs=>cs=[.int .i64 x.kind,.string x.name,.string x.val]) 3 W A l):RdSt W A l:=fun hne=>by
 obtain⟨b,o,rfl,hc⟩:=h hne
 refine⟨b,o,rfl,fun k hk=>?_⟩
 obtain⟨ecs,rfl,_,hj⟩:=hc k hk
 exact⟨hj 0 (by omega),hj 1 (by omega),hj 2 (by omega)⟩
theorem rowOf_needs {W:World} {A:Option Addr} {l:List Ned} (h:RowOf NedCells 2 W A l):RdN W A l:=fun hne=>by
 obtain⟨b,o,rfl,hc⟩:=h hne
 refine⟨b,o,rfl,fun k hk=>?_⟩
 obtain⟨ecs,⟨A',c',rfl,hv⟩,_,hj⟩:=hc k hk
 exact⟨A',c',hj 0 (by omega),hj 1 (by omega),hv⟩
def cmB (q:Cmp):Nat:=q.name.size+q.title.size+(q.needs.map fun s=>s.size+1).sum+(q.items.map itBk).sum+(q.steps.map stBk).sum+1
def CmCells (W:World) (q:Cmp × Nat) (cs:List Value):Prop :=
 (∃ k n x A2 m c2 A3 c3 A4 c4 A5 c5,cs=[.string q.1.name,.string q.1.title,.bool q.1.dfl,.bool q.1.alw,.int .i64 k,.string n,.string x,.slice A2 m c2,.slice A3 q.1.needs.length c3,.slice A4 q.1.items.length c4,.slice A5 q.1.steps.length c5]∧CmIn W q.1 k n x A2 m c2 A3 c3 A4 c4 A5 c5)∧cnt q.1.wh<=q.2∧StrC q.2 q.1.wh
theorem opens_condK:Opens 52 (fun W (q:Cd × Nat) cs=>CdIn (fun _=>True) W q.1 (.agg cs.toArray)∧cnt q.1<=q.2∧StrC q.2 q.1) (fun q=>q.2):=fun H enc W fuel cs x h=>by
 obtain⟨c,e1,e2,e3⟩:=opens_cond H enc W _ fuel _ _ h (Nat.le_refl _)
 exact⟨⟨c,Rows.uptoBulk x.1⟩,⟨e1,e2,e3⟩,Nat.le_refl _⟩
theorem opens_textsK:Opens 77 (fun W (l:List ByteArray) cs=>∃ A c,cs=[.slice A l.length c]∧l.length<=c∧RowOf (fun _ (s:ByteArray) cs=>cs=[.string s]) 1 W A l) (fun l=>(l.map fun s=>s.size+1).sum+1) :=
 opens_sliceK (sz:=1) Tryz.underlying77 (by kernel_rfl) (by decide) (opens_string Tryz.underlying9)
set_option maxRecDepth 100000 in
theorem opens_component:Opens 82 CmCells (fun q=>cmB q.1+q.2):=fun H enc W fuel cs x h=>by
 obtain⟨xs,n,_,rfl,hl,hlen,hf⟩:=DataW.trod_struct Tryz.underlying82 h
 have hc:Tryz.prog.cellsOf 82=11:=by kernel_rfl
 rw[hc] at hl
 match cs,hl,xs,hlen with
 | [c0,c1,c2,c3,c4,c5,c6,c7,c8,c9,c10],_,[y0,y1,y2,y3,y4,y5,y6,y7],_ =>
   have h0:=hf 0 _ rfl
   replace h0:DataW.trod enc Tryz.prog W 0 (fun _=>true) true n 9 (([c0,c1,c2,c3,c4,c5,c6,c7,c8,c9,c10].drop 0).take (Tryz.prog.cellsOf 9))=some y0:=h0
   rw[show Tryz.prog.cellsOf 9=1 by kernel_rfl] at h0
   obtain⟨a,e0,b0⟩:=opens_string Tryz.underlying9 H enc W n _ _ h0
   have h1:=hf 1 _ rfl
   replace h1:DataW.trod enc Tryz.prog W 0 (fun _=>true) true n 9 (([c0,c1,c2,c3,c4,c5,c6,c7,c8,c9,c10].drop 1).take (Tryz.prog.cellsOf 9))=some y1:=h1
   rw[show Tryz.prog.cellsOf 9=1 by kernel_rfl] at h1
   obtain⟨b,e1,b1⟩:=opens_string Tryz.underlying9 H enc W n _ _ h1
   have h2:=hf 2 _ rfl
   replace h2:DataW.trod enc Tryz.prog W 0 (fun _=>true) true n 4 (([c0,c1,c2,c3,c4,c5,c6,c7,c8,c9,c10].drop 2).take (Tryz.prog.cellsOf 4))=some y2:=h2
   rw[show Tryz.prog.cellsOf 4=1 by kernel_rfl] at h2
   obtain⟨df,e2,b2⟩:=opens_bool Tryz.underlying4 H enc W n _ _ h2
   have h3:=hf 3 _ rfl
   replace h3:DataW.trod enc Tryz.prog W 0 (fun _=>true) true n 4 (([c0,c1,c2,c3,c4,c5,c6,c7,c8,c9,c10].drop 3).take (Tryz.prog.cellsOf 4))=some y3:=h3
   rw[show Tryz.prog.cellsOf 4=1 by kernel_rfl] at h3
   obtain⟨al,e3,b3⟩:=opens_bool Tryz.underlying4 H enc W n _ _ h3
   have h4:=hf 4 _ rfl
   replace h4:DataW.trod enc Tryz.prog W 0 (fun _=>true) true n 52 (([c0,c1,c2,c3,c4,c5,c6,c7,c8,c9,c10].drop 4).take (Tryz.prog.cellsOf 52))=some y4:=h4
   rw[show Tryz.prog.cellsOf 52=4 by kernel_rfl] at h4
   obtain⟨⟨cd,m⟩,⟨hcd,hcn,hst⟩,b4⟩:=opens_condK H enc W n _ _ h4
   have h5:=hf 5 _ rfl
   replace h5:DataW.trod enc Tryz.prog W 0 (fun _=>true) true n 77 (([c0,c1,c2,c3,c4,c5,c6,c7,c8,c9,c10].drop 8).take (Tryz.prog.cellsOf 77))=some y5:=h5
   rw[show Tryz.prog.cellsOf 77=1 by kernel_rfl] at h5
   obtain⟨ns,⟨A5,z5,e5,hcap5,hr5⟩,b5⟩:=opens_textsK H enc W n _ _ h5
   have h6:=hf 6 _ rfl
   replace h6:DataW.trod enc Tryz.prog W 0 (fun _=>true) true n 79 (([c0,c1,c2,c3,c4,c5,c6,c7,c8,c9,c10].drop 9).take (Tryz.prog.cellsOf 79))=some y6:=h6
   rw[show Tryz.prog.cellsOf 79=1 by kernel_rfl] at h6
   obtain⟨its,⟨A6,z6,e6,hcap6,hr6⟩,b6⟩:=opens_sliceK (sz:=10) Tryz.underlying79 (by kernel_rfl) (by decide) opens_item H enc W n _ _ h6
   have h7:=hf 7 _ rfl
   replace h7:DataW.trod enc Tryz.prog W 0 (fun _=>true) true n 80 (([c0,c1,c2,c3,c4,c5,c6,c7,c8,c9,c10].drop 10).take (Tryz.prog.cellsOf 80))=some y7:=h7
   rw[show Tryz.prog.cellsOf 80=1 by kernel_rfl] at h7
   obtain⟨sts,⟨A7,z7,e7,hcap7,hr7⟩,b7⟩:=opens_sliceK (sz:=3) Tryz.underlying80 (by kernel_rfl) (by decide) opens_step H enc W n _ _ h7
   simp at hcd
   obtain⟨k,n',x,A2,m2,c2',ecd⟩:=hcd.cells
   simp at ecd e0 e1 e2 e3 e5 e6 e7
   obtain⟨rfl,rfl,rfl,rfl⟩:=ecd
   subst e0
   subst e1
   subst e2
   subst e3
   subst e5
   subst e6
   subst e7
   refine⟨⟨⟨a,b,df,al,cd,ns,its,sts⟩,m⟩,⟨⟨k,n',x,A2,m2,c2',A5,z5,A6,z6,A7,z7,rfl,hcd,rdX_row hr5,rowOf_items hr6,rowOf_steps hr7,hcap5,hcap6,hcap7⟩,hcn,hst⟩,?_⟩
   unfold cmB
   dsimp only at b0 b1 b2 b3 b4 b5 b6 b7 ⊢
   simp only[List.map_cons,List.map_nil,Rows.uptoBulk,Rows.uptoBulkAll]
   omega
theorem rowOf_comps {W:World} {A:Option Addr} {l:List (Cmp × Nat)} (h:RowOf CmCells 11 W A l):RdC W A (l.map Prod.fst):=fun hne=>by
 obtain⟨b,o,rfl,hc⟩:=h (fun e=>hne (by rw[e];rfl))
 refine⟨b,o,rfl,fun k hk=>?_⟩
 rw[List.length_map] at hk
 obtain⟨ecs,⟨⟨k',n,x,A2,m,c2,A3,c3,A4,c4,A5,c5,rfl,hin⟩,_⟩,_,hj⟩:=hc k hk
 rw[List.getElem_map]
 exact⟨k',n,x,A2,m,c2,A3,c3,A4,c4,A5,c5,hj 0 (by omega),hj 1 (by omega),hj 2 (by omega),hj 3 (by omega),hj 4 (by omega),hj 5 (by omega),hj 6 (by omega),hj 7 (by omega),hj 8 (by omega),hj 9 (by omega),hj 10 (by omega),hin⟩
def pkB (p:Pkg):Nat:=p.name.size+p.vv.a.size+p.title.size+(p.needs.map nedBk).sum+(p.bars.map nedBk).sum+(p.comps.map cmB).sum+(p.moves.map mvBk).sum+1
def PkCells (W:World) (q:Pkg × Nat) (cs:List Value):Prop :=
 (∃ A c A2 c2 A3 c3 A4 c4,cs=[.string q.1.name,.int .i64 q.1.vv.a1,.int .i64 q.1.vv.a2,.int .i64 q.1.vv.a3,.string q.1.vv.a,.string q.1.title,.slice A q.1.needs.length c,.slice A2 q.1.bars.length c2,.slice A3 q.1.comps.length c3,.slice A4 q.1.moves.length c4]∧PkIn W q.1 A c A2 c2 A3 c3 A4 c4)∧∀ c∈q.1.comps,cnt c.wh<=q.2∧StrC q.2 c.wh
theorem cells_conds {W:World} {A:Option Addr} {l:List (Cmp × Nat)} (h:RowOf CmCells 11 W A l):∀ c∈l.map Prod.fst,cnt c.wh<=(l.map Prod.snd).sum∧StrC (l.map Prod.snd).sum c.wh:=fun c hc=>by
 obtain⟨q,hq,rfl⟩:=List.mem_map.1 hc
 obtain⟨k,hk,rfl⟩:=List.mem_iff_getElem.1 hq
 obtain⟨b,o,rfl,hc⟩:=h (fun e=>by rw[e] at hk;exact absurd hk (Nat.not_lt_zero _))
 obtain⟨ecs,⟨_,h1,h2⟩,_⟩:=hc k hk
 have:=sum_mem (bk:=Prod.snd) (List.getElem_mem hk)
 exact⟨by omega,h2.le this⟩
theorem sum_twoK (l:List (Cmp × Nat)):(l.map fun q=>cmB q.1+q.2).sum=((l.map Prod.fst).map cmB).sum+(l.map Prod.snd).sum:=by
 induction l with
 | nil=>rfl
 | cons q l ih=>simp only[List.map_cons,List.sum_cons,ih];omega
set_option maxRecDepth 100000 in
theorem opens_package:Opens 76 PkCells (fun q=>pkB q.1+q.2):=fun H enc W fuel cs x h=>by
 obtain⟨xs,n,_,rfl,hl,hlen,hf⟩:=DataW.trod_struct Tryz.underlying76 h
 have hc:Tryz.prog.cellsOf 76=10:=by kernel_rfl
 rw[hc] at hl
 match cs,hl,xs,hlen with
 | [c0,c1,c2,c3,c4,c5,c6,c7,c8,c9],_,[y0,y1,y2,y3,y4,y5,y6],_ =>
   have h0:=hf 0 _ rfl
   replace h0:DataW.trod enc Tryz.prog W 0 (fun _=>true) true n 9 (([c0,c1,c2,c3,c4,c5,c6,c7,c8,c9].drop 0).take (Tryz.prog.cellsOf 9))=some y0:=h0
   rw[show Tryz.prog.cellsOf 9=1 by kernel_rfl] at h0
   obtain⟨a,e0,b0⟩:=opens_string Tryz.underlying9 H enc W n _ _ h0
   have h1:=hf 1 _ rfl
   replace h1:DataW.trod enc Tryz.prog W 0 (fun _=>true) true n 23 (([c0,c1,c2,c3,c4,c5,c6,c7,c8,c9].drop 1).take (Tryz.prog.cellsOf 23))=some y1:=h1
   rw[show Tryz.prog.cellsOf 23=4 by kernel_rfl] at h1
   obtain⟨v,e1,b1⟩:=opens_ver H enc W n _ _ h1
   have h2:=hf 2 _ rfl
   replace h2:DataW.trod enc Tryz.prog W 0 (fun _=>true) true n 9 (([c0,c1,c2,c3,c4,c5,c6,c7,c8,c9].drop 5).take (Tryz.prog.cellsOf 9))=some y2:=h2
   rw[show Tryz.prog.cellsOf 9=1 by kernel_rfl] at h2
   obtain⟨tt,e2,b2⟩:=opens_string Tryz.underlying9 H enc W n _ _ h2
   have h3:=hf 3 _ rfl
   replace h3:DataW.trod enc Tryz.prog W 0 (fun _=>true) true n 72 (([c0,c1,c2,c3,c4,c5,c6,c7,c8,c9].drop 6).take (Tryz.prog.cellsOf 72))=some y3:=h3
   rw[show Tryz.prog.cellsOf 72=1 by kernel_rfl] at h3
   obtain⟨nd,⟨A3,z3,e3,hcap3,hr3⟩,b3⟩:=opens_sliceK (sz:=2) Tryz.underlying72 (by kernel_rfl) (by decide) opens_need H enc W n _ _ h3
   have h4:=hf 4 _ rfl
   replace h4:DataW.trod enc Tryz.prog W 0 (fun _=>true) true n 72 (([c0,c1,c2,c3,c4,c5,c6,c7,c8,c9].drop 7).take (Tryz.prog.cellsOf 72))=some y4:=h4
   rw[show Tryz.prog.cellsOf 72=1 by kernel_rfl] at h4
   obtain⟨br,⟨A4,z4,e4,hcap4,hr4⟩,b4⟩:=opens_sliceK (sz:=2) Tryz.underlying72 (by kernel_rfl) (by decide) opens_need H enc W n _ _ h4
   have h5:=hf 5 _ rfl
   replace h5:DataW.trod enc Tryz.prog W 0 (fun _=>true) true n 73 (([c0,c1,c2,c3,c4,c5,c6,c7,c8,c9].drop 8).take (Tryz.prog.cellsOf 73))=some y5:=h5
   rw[show Tryz.prog.cellsOf 73=1 by kernel_rfl] at h5
   obtain⟨cl,⟨A5,z5,e5,hcap5,hr5⟩,b5⟩:=opens_sliceK (sz:=11) Tryz.underlying73 (by kernel_rfl) (by decide) opens_component H enc W n _ _ h5
   have h6:=hf 6 _ rfl
   replace h6:DataW.trod enc Tryz.prog W 0 (fun _=>true) true n 74 (([c0,c1,c2,c3,c4,c5,c6,c7,c8,c9].drop 9).take (Tryz.prog.cellsOf 74))=some y6:=h6
   rw[show Tryz.prog.cellsOf 74=1 by kernel_rfl] at h6
   obtain⟨mv,⟨A6,z6,e6,hcap6,hr6⟩,b6⟩:=opens_sliceK (sz:=6) Tryz.underlying74 (by kernel_rfl) (by decide) opens_move H enc W n _ _ h6
   simp at e0 e1 e2 e3 e4 e5 e6
   subst e0
   obtain⟨rfl,rfl,rfl,rfl⟩:=e1
   subst e2
   subst e3
   subst e4
   subst e5
   subst e6
   refine⟨⟨⟨a,v,tt,nd,br,cl.map Prod.fst,mv⟩,(cl.map Prod.snd).sum⟩,⟨⟨A3,z3,A4,z4,A5,z5,A6,z6,by rw[List.length_map],rowOf_needs hr3,rowOf_needs hr4,rowOf_comps hr5,rowOf_moves hr6,hcap3,hcap4,by rw[List.length_map];exact hcap5,hcap6⟩,cells_conds hr5⟩,?_⟩
   unfold pkB
   dsimp only at b5
   rw[sum_twoK] at b5
   dsimp only at b0 b1 b2 b3 b4 b5 b6 ⊢
   simp only[List.map_cons,List.map_nil,Rows.uptoBulk,Rows.uptoBulkAll]
   omega
theorem small_item {x:Itm} {n:Nat} (hn:n<=1048576) (h:itBk x<=n):SmallI x:=by
 unfold itBk at h
 exact⟨by omega,by omega,by omega,by omega,by omega,by omega⟩
theorem small_need {x:Ned} {n:Nat} (hn:n<=1048576) (h:nedBk x<=n):SmallN x:=by
 unfold nedBk at h
 have h2:=sum_len (bk:=fun s:Sp=>s.f.a.size+s.t.a.size+10) (c:=1) (fun s=>by omega) x.fr
 refine⟨by omega,fun y hy=>?_,by omega⟩
 have h4:=sum_mem (bk:=fun s:Sp=>s.f.a.size+s.t.a.size+10) hy
 exact⟨by omega,by omega⟩
theorem small_comp {q:Cmp} {n m:Nat} (hn:n<=1048576) (hm:m<=1048576) (h:cmB q<=n) (h1:cnt q.wh<=m) (h2:StrC m q.wh):SmallCm q:=by
 unfold cmB at h
 have k1:=sum_len (bk:=fun s:ByteArray=>s.size+1) (c:=1) (fun s=>by omega) q.needs
 have k2:=sum_len (bk:=itBk) (c:=1) (fun s=>by unfold itBk;omega) q.items
 have k3:=sum_len (bk:=stBk) (c:=1) (fun s=>by unfold stBk;omega) q.steps
 refine⟨by omega,by omega,small_of (m:=m) (by omega) h2 (by omega),by omega,fun x hx=>?_,by omega,fun x hx=>?_,by omega,fun x hx=>?_,by omega⟩
 ·have:=sum_mem (bk:=fun s:ByteArray=>s.size+1) hx
  omega
 ·have:=sum_mem (bk:=itBk) hx
  exact small_item (n:=n) hn (by omega)
 ·have:=sum_mem (bk:=stBk) hx
  have e:stBk x=x.name.size+x.val.size+3:=rfl
  exact⟨by omega,by omega⟩
theorem bytes_leK (l:List Itm):bytesOf l<=(l.map itBk).sum:=by
 unfold bytesOf
 induction l with
 | nil=>exact Nat.le_refl _
 | cons x l ih=>simp only[List.map_cons,List.sum_cons];unfold itBk at *;omega
theorem bytes_appendK (l l':List Itm):bytesOf (l++l')=bytesOf l+bytesOf l':=by unfold bytesOf;rw[List.map_append,List.sum_append]
theorem comps_allK (l:List Cmp):(itemsL l).length<=(l.map cmB).sum∧bytesOf (itemsL l)<=(l.map cmB).sum∧(l.flatMap Cmp.needs).length<=(l.map cmB).sum:=by
 unfold itemsL
 induction l with
 | nil=>exact⟨Nat.le_refl _,Nat.le_refl _,Nat.le_refl _⟩
 | cons q l ih =>
   obtain⟨i1,i2,i3⟩:=ih
   have k1:=sum_len (bk:=fun s:ByteArray=>s.size+1) (c:=1) (fun s=>by omega) q.needs
   have k2:=sum_len (bk:=itBk) (c:=1) (fun s=>by unfold itBk;omega) q.items
   have k3:=bytes_leK q.items
   simp only[List.flatMap_cons,List.length_append,List.map_cons,List.sum_cons,bytes_appendK]
   unfold cmB at *
   exact⟨by omega,by omega,by omega⟩
theorem small_pkg {p:Pkg} {n m:Nat} (hn:n<=1048576) (hm:m<=1048576) (h:pkB p<=n) (h1:∀ c∈p.comps,cnt c.wh<=m∧StrC m c.wh):SmallP p∧(p.comps.flatMap Cmp.needs).length<=2097152:=by
 obtain⟨a1,a2,a3⟩:=comps_allK p.comps
 unfold pkB at h
 have k1:=sum_len (bk:=nedBk) (c:=1) (fun s=>by unfold nedBk;omega) p.needs
 have k2:=sum_len (bk:=nedBk) (c:=1) (fun s=>by unfold nedBk;omega) p.bars
 have k3:=sum_len (bk:=cmB) (c:=1) (fun s=>by unfold cmB;omega) p.comps
 have k4:=sum_len (bk:=mvBk) (c:=1) (fun s=>by unfold mvBk;omega) p.moves
 refine⟨⟨by omega,by omega,by omega,fun x hx=>?_,by omega,fun x hx=>?_,by omega,fun x hx=>?_,by omega,fun x hx=>?_,by omega,by omega,by omega⟩,by omega⟩
 ·have:=sum_mem (bk:=nedBk) hx
  exact small_need (n:=n) hn (by omega)
 ·have:=sum_mem (bk:=nedBk) hx
  exact small_need (n:=n) hn (by omega)
 ·have:=sum_mem (bk:=cmB) hx
  exact small_comp (n:=n) (m:=m) hn hm (by omega) (h1 x hx).1 (h1 x hx).2
 ·have:=sum_mem (bk:=mvBk) hx
  exact small_move (n:=n) hn (by omega)
set_option maxRecDepth 100000 in
theorem open_package {H:Type} {enc:TypeId × Value->H} {W:World} {base:Nat} {v:Value} {d:DataW H} {p:List MemPlace} (hv:Value.okWide Tryz.prog W .any base 76 v) (h:DataW.Trod enc Tryz.prog W 0 (fun _=>true) true 76 v d p) (hd:Rows.uptoBulk d<=1048576) :
 ∃ (q:Pkg) (A:Option Addr) (c:Nat) (A2:Option Addr) (c2:Nat) (A3:Option Addr) (c3:Nat) (A4:Option Addr) (c4:Nat),v=pkV q A c A2 c2 A3 c3 A4 c4∧PkIn W q A c A2 c2 A3 c3 A4 c4∧SmallP q∧(q.comps.flatMap Cmp.needs).length<=2097152:=by
 obtain⟨cs,rfl,_⟩:=okWide_struct Tryz.underlying76 hv
 obtain⟨fuel,hf⟩:=h
 obtain⟨⟨q,m⟩,⟨⟨A,c,A2,c2,A3,c3,A4,c4,e,hin⟩,hcs⟩,hb⟩:=opens_package H enc W fuel _ _ hf
 dsimp only at hb hcs hin e
 obtain⟨h1,h2⟩:=small_pkg (n:=Rows.uptoBulk d) (m:=m) hd (by omega) (by omega) hcs
 refine⟨q,A,c,A2,c2,A3,c3,A4,c4,?_,hin,h1,h2⟩
 obtain⟨cs⟩:=cs
 simp only[Value.cells] at e
 rw[show cs=_ from e]
set_option maxRecDepth 100000 in
theorem open_texts {H:Type} {enc:TypeId × Value->H} {W:World} {base:Nat} {v:Value} {d:DataW H} {p:List MemPlace} (hv:Value.okWide Tryz.prog W .any base 77 v) (h:DataW.Trod enc Tryz.prog W 0 (fun _=>true) true 77 v d p) :
 ∃ A c l,v=.slice A l.length c∧l.length<=c∧RdX W A l∧(∀ x∈l,x.size<=Rows.uptoBulk d)∧l.length<=Rows.uptoBulk d:=by
 obtain⟨a,len,cap,rfl⟩:=okWide_slice Tryz.underlying77 hv
 obtain⟨fuel,hf⟩:=h
 obtain⟨l,⟨A,c,e,hcap,hr⟩,hb⟩:=opens_textsK H enc W fuel _ _ hf
 dsimp only at hb
 refine⟨A,c,l,?_,hcap,rdX_row hr,fun s hs=>?_,?_⟩
 ·have e:[Value.slice a len cap]=[.slice A l.length c]:=e
  injection e
 ·have:=sum_mem (bk:=fun s:ByteArray=>s.size+1) hs
  omega
 ·have:=sum_len (bk:=fun s:ByteArray=>s.size+1) (c:=1) (fun s=>by omega) l
  omega
end
end Go.Proofs.YtmpccllnpcbgcaaGreatDoor
