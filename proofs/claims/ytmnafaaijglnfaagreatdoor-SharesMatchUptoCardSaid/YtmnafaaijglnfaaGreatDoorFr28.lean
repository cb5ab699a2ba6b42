/- Contracts of ver.CheckCond and outref2.CondError. Contracts of ver.CheckCond and outref2.CondError, the whole. Offers one behind the other in a row of the call's own, and the reader of feeds in memory. Contracts of feed.isSum, feed.outside, of outref2.Of over hexadecimal digits, and of feed.compareOffers. (Printed by gen/feeds.py.) Contracts of feed.number, of the reader's enter, noted, head, offer, and of feed.share, feed.whole. -/
import Derived.Test.YtmnafaaijglnfaaGreatDoorFr27
import Derived.Test.YtmnafaaijglnfaaGreatDoorFr26
namespace Go.Proofs.YtmnafaaijglnfaaGreatDoor
section
open Go.RowKit
def step1 (_:Cd) (lev:Nat) (s:Int × Bool):(Int × Bool) × Bool:=((IntKind.i64.wrap (s.1+1),s.2||decide (20 < lev)),decide (IntKind.i64.wrap (s.1+1)<=100))
def step2 (c:Cd) (_:Nat) (_:Int):Int × Bool:=(partC c,partC c==0)
def step3 (_:Cd) (lev:Nat) (s:Int × Int):(Int × Int) × Bool:=((IntKind.i64.wrap (s.1+1),max s.2 (lev:Int)),true)
def step4 (c:Cd) (_:Nat) (e:Int):Int × Bool:=(if e=0 then partC c else e,true)
theorem wrap_small {p:Int} (h0:0<=p) (h1:p<=1000000000):IntKind.i64.wrap (p+1)=p+1:=by rw[IntKind.wrap_i64];omega
theorem run1_small:∀ (l:List (Cd × Nat)) (p:Int) (d:Bool),0<=p->p+l.length<=100->runP step1 l (p,d)=((p+l.length,d||l.any fun q=>decide (20 < q.2)),true)
 | [],p,d,_,_=>by simp[runP]
 | q::r,p,d,h0,h1=>by
   simp only[List.length_cons] at h1
   have hw:=wrap_small h0 (by omega)
   unfold runP
   simp only[step1,hw]
   rw[if_pos (by rw[decide_eq_true_eq];omega),run1_small r (p+1) _ (by omega) (by omega)]
   simp only[List.length_cons,List.any_cons,Bool.or_assoc,Prod.mk.injEq,and_true]
   omega
theorem run1_large:∀ (l:List (Cd × Nat)) (p:Int) (d:Bool),0<=p->p<=100->100 < p+l.length->(runP step1 l (p,d)).1.1=101
 | [],p,d,_,h1,h2=>by simp at h2;omega
 | q::r,p,d,h0,h1,h2=>by
   simp only[List.length_cons] at h2
   have hw:=wrap_small h0 (by omega)
   unfold runP
   simp only[step1,hw]
   by_cases h:p+1<=100
   ·rw[if_pos (by rw[decide_eq_true_eq];exact h)]
    exact run1_large r (p+1) _ (by omega) h (by omega)
   ·rw[if_neg (by rw[decide_eq_true_eq];exact h)]
    show p+1=101
    omega
theorem run2_first:∀ (l:List (Cd × Nat)),(runP step2 l 0).1=firstErr l
 | []=>rfl
 | q::r=>by
   have h:∀ z,(runP step2 r z).1=if r=[] then z else firstErr r:=fun z=>by
    cases r with
    | nil=>rfl
    | cons a b=>rw[if_neg (by simp),<-run2_first (a::b)];rfl
   unfold runP firstErr
   simp only[step2,beq_iff_eq]
   by_cases hz:partC q.1=0
   ·rw[if_pos hz,if_pos hz,hz,run2_first r]
   ·rw[if_neg hz,if_neg hz]
theorem run3_all:∀ (l:List (Cd × Nat)) (m d:Int),0<=m->m+l.length<=1000000000->(runP step3 l (m,d)).1.1=m+l.length∧((20 < (runP step3 l (m,d)).1.2)↔(20 < d∨(l.any fun q=>decide (20 < q.2))=true))
 | [],m,d,_,_=>by simp[runP]
 | q::r,m,d,h0,h1=>by
   simp only[List.length_cons] at h1
   have hw:=wrap_small h0 (by omega)
   unfold runP
   simp only[step3,hw,if_true]
   obtain⟨a,b⟩:=run3_all r (m+1) (max d (q.2:Int)) (by omega) (by omega)
   refine⟨by rw[a,List.length_cons];omega,?_⟩
   rw[b,List.any_cons,Bool.or_eq_true,decide_eq_true_eq]
   constructor
   ·rintro (h|h)
    ·by_cases h2:20 < q.2
     ·exact .inr (.inl h2)
     ·exact .inl (by omega)
    ·exact .inr (.inr h)
   ·rintro (h|h|h)
    ·exact .inl (by omega)
    ·exact .inl (by omega)
    ·exact .inr h
theorem run4_first:∀ (l:List (Cd × Nat)) (e:Int),(runP step4 l e).1=if e=0 then firstErr l else e
 | [],e=>by
   unfold runP firstErr
   split
   ·assumption
   ·rfl
 | q::r,e=>by
   unfold runP
   simp only[step4,if_true]
   rw[run4_first r]
   by_cases he:e=0
   ·rw[if_pos he,if_pos he]
    rfl
   ·rw[if_neg he,if_neg he,if_neg he]
theorem visit1_any (g1 g2:Nat) (hne:g1≠g2) (c:Cd) (v:Value) (lev:Nat) (s:Int × Bool) (w:World) (P:Nat->Prop) (hlev:lev<=1000000000) (hc:CdIn P w c v) (h1:Blk w g1 3 #[.int .i64 s.1]) (h2:Blk w g2 4 #[.bool s.2]) :
 Calls Tryz.prog 172 #[v,.int .i64 lev,.pointer (some ⟨g1,0,none⟩),.pointer (some ⟨g2,0,none⟩)] w fun e w'=>e=.returned (.bool (step1 c lev s).2)∧(Blk w' g1 3 #[.int .i64 (step1 c lev s).1.1]∧Blk w' g2 4 #[.bool (step1 c lev s).1.2])∧ExtC (fun k=>k=g1∨k=g2) w w':=by
 obtain⟨k,n,x,A,m,cp,rfl⟩:=hc.cells
 obtain⟨p,d⟩:=s
 have c1:=h1.cell;have f1:=h1.free;have l1:=h1.lt
 have c2:=h2.cell;have f2:=h2.free;have l2:=h2.lt
 have H1:=Hy h1;have H2:=Hy h2
 unfold step1
 dsimp only at *
 clear hc h1 h2
 have hd2:decide ((20:Int) < (lev:Int))=decide (20 < lev):=by
  by_cases h:20 < lev
  ·rw[decide_eq_true h,decide_eq_true (by omega)]
  ·rw[decide_eq_false h,decide_eq_false (by omega)]
 rw[<-hd2]
 generalize hq:IntKind.i64.wrap (p+1)=q
 clear hd2
 have hfin:=fun (b:Bool) (o:Obj)=>(⟨⟨((H1.out.set 0 (.int .i64 q)).far (p:=⟨g2,0,none⟩) hne (.bool b)).alloc o,((H2.out.far (p:=⟨g1,0,none⟩) (Ne.symm hne) (.int .i64 q)).set 0 (.bool b)).alloc o⟩,(((ExtC.refl (fun k=>k=g1∨k=g2) w).set (p:=⟨g1,0,none⟩) (.inl (.inl rfl)) (.int .i64 q)).set (p:=⟨g2,0,none⟩) (.inl (.inr rfl)) (.bool b)).alloc o⟩:(_∧_)∧_)
 have HF:=Hy hfin
 clear hfin
 cases d
 ·go_enter Tryz.func172,Tryz.ntmps172
  go_wp2
  go_ret
  exact⟨rfl,HF.out _ _⟩
 ·go_enter Tryz.func172,Tryz.ntmps172
  go_wp2
  go_ret
  exact⟨rfl,HF.out _ _⟩
theorem visit2_any (g3:Nat) (c:Cd) (v:Value) (lev:Nat) (s:Int) (w:World) (P:Nat->Prop) (hg:GoodN w) (hsm:SmallC c) (hc:CdIn P w c v) (h3:Blk w g3 24 #[.int .i64 s]) :
 Calls Tryz.prog 173 #[v,.int .i64 lev,.pointer (some ⟨g3,0,none⟩)] w fun e w'=>e=.returned (.bool (step2 c lev s).2)∧Blk w' g3 24 #[.int .i64 (step2 c lev s).1]∧ExtC (fun k=>k=g3) w w':=by
 cases hc with
 | mk k n x l A cp b o u0 u1 u2 u3 hA hb h0 h1 h2 h3' hr =>
   obtain⟨_,_,_,_,hsn,hsx,hsl,hsr⟩:=hsm
   have hb3:=h3.alloc (.cells #[.int .i64 k,.string n,.string x,.slice A l.length cp] 52)
   have hx0:Ext w (w.alloc (.cells #[.int .i64 k,.string n,.string x,.slice A l.length cp] 52)):=(Ext.refl w).alloc _
   have hp:=partFault_any k n x A l.length cp _ (hg.ext hx0) hsn hsx hsl
   unfold step2 partC
   dsimp only[Cd.kind,Cd.name,Cd.value,Cd.args]
   generalize partErr k (bs n) (bs x) l.length=E at *
   have HP:=Hy hp
   clear hp h0 h1 h2 h3' hr hA hb h3
   go_enter Tryz.func173,Tryz.ntmps173
   go_wp2_with fail
   refine HP.out.mono ?_
   rintro e w1 ⟨rfl,hx1⟩
   have b1:=hb3.ext hx1
   have c1:=b1.cell;have f1:=b1.free;have l1:=b1.lt
   have hfin:Blk (w1.setCell ⟨g3,0,none⟩ (.int .i64 E)) g3 24 #[.int .i64 E]:=b1.set 0 _
   have HF:=Hy hfin
   clear hfin hb3
   go_wp2
   go_ret
   exact⟨rfl,HF.out,(ExtC.ofExt (C:=fun k=>k=g3) (hx0.trans hx1)).set (p:=⟨g3,0,none⟩) (.inl rfl) _⟩
theorem visit3_any (g1 g2:Nat) (hne:g1≠g2) (c:Cd) (v:Value) (lev:Nat) (s:Int × Int) (w:World) (P:Nat->Prop) (hc:CdIn P w c v) (h1:Blk w g1 3 #[.int .i64 s.1]) (h2:Blk w g2 3 #[.int .i64 s.2]) :
 Calls Tryz.prog 180 #[v,.int .i64 lev,.pointer (some ⟨g1,0,none⟩),.pointer (some ⟨g2,0,none⟩)] w fun e w'=>e=.returned (.tuple #[])∧(Blk w' g1 3 #[.int .i64 (step3 c lev s).1.1]∧Blk w' g2 3 #[.int .i64 (step3 c lev s).1.2])∧ExtC (fun k=>k=g1∨k=g2) w w':=by
 obtain⟨k,n,x,A,m,cp,rfl⟩:=hc.cells
 obtain⟨p,d⟩:=s
 have c1:=h1.cell;have f1:=h1.free;have l1:=h1.lt
 have c2:=h2.cell;have f2:=h2.free;have l2:=h2.lt
 have H1:=Hy h1;have H2:=Hy h2
 unfold step3
 dsimp only at *
 clear hc h1 h2
 generalize hq:IntKind.i64.wrap (p+1)=q
 have hfin:=fun (b:Int) (o:Obj)=>(⟨⟨((H1.out.set 0 (.int .i64 q)).far (p:=⟨g2,0,none⟩) hne (.int .i64 b)).alloc o,((H2.out.far (p:=⟨g1,0,none⟩) (Ne.symm hne) (.int .i64 q)).set 0 (.int .i64 b)).alloc o⟩,(((ExtC.refl (fun k=>k=g1∨k=g2) w).set (p:=⟨g1,0,none⟩) (.inl (.inl rfl)) (.int .i64 q)).set (p:=⟨g2,0,none⟩) (.inl (.inr rfl)) (.int .i64 b)).alloc o⟩:(_∧_)∧_)
 have HF:=Hy hfin
 clear hfin
 go_enter Tryz.func180,Tryz.ntmps180
 go_wp2
 refine bodyPost_end (results_none rfl _ _ _) rfl ?_
 exact⟨rfl,HF.out _ _⟩
theorem visit4_any (g3:Nat) (c:Cd) (v:Value) (lev:Nat) (s:Int) (w:World) (P:Nat->Prop) (hg:GoodN w) (hsm:SmallC c) (hc:CdIn P w c v) (h3:Blk w g3 24 #[.int .i64 s]) :
 Calls Tryz.prog 181 #[v,.int .i64 lev,.pointer (some ⟨g3,0,none⟩)] w fun e w'=>e=.returned (.tuple #[])∧Blk w' g3 24 #[.int .i64 (step4 c lev s).1]∧ExtC (fun k=>k=g3) w w':=by
 cases hc with
 | mk k n x l A cp b o u0 u1 u2 u3 hA hb h0 h1 h2 h3' hr =>
   obtain⟨_,_,_,_,hsn,hsx,hsl,hsr⟩:=hsm
   have hb3:=h3.alloc (.cells #[.int .i64 k,.string n,.string x,.slice A l.length cp] 52)
   have hx0:Ext w (w.alloc (.cells #[.int .i64 k,.string n,.string x,.slice A l.length cp] 52)):=(Ext.refl w).alloc _
   have hp:=partError_any k n x A l.length cp _ (hg.ext hx0) hsn hsx hsl
   unfold step4 partC
   dsimp only[Cd.kind,Cd.name,Cd.value,Cd.args]
   generalize partErr k (bs n) (bs x) l.length=E at *
   have HP:=Hy hp
   have HG:=Hy h3
   have c3:=hb3.cell;have c3w:=h3.cell;have l3:=h3.lt
   clear hp h0 h1 h2 h3' hr hA hb h3
   by_cases hs:s=0
   ·rw[if_pos hs]
    have es:(s==0)=true:=beq_iff_eq.2 hs
    clear hs
    go_enter Tryz.func181,Tryz.ntmps181
    go_wp2_with fail
    refine HP.out.mono ?_
    rintro e w1 ⟨rfl,hx1⟩
    have b1:=hb3.ext hx1
    have c1:=b1.cell;have f1:=b1.free;have l1:=b1.lt
    have hfin:Blk (w1.setCell ⟨g3,0,none⟩ (.int .i64 E)) g3 24 #[.int .i64 E]:=b1.set 0 _
    have HF:=Hy hfin
    clear hfin hb3
    go_wp2
    refine bodyPost_end (results_none rfl _ _ _) rfl ?_
    exact⟨rfl,HF.out,(ExtC.ofExt (C:=fun k=>k=g3) (hx0.trans hx1)).set (p:=⟨g3,0,none⟩) (.inl rfl) _⟩
   ·rw[if_neg hs]
    have es:(s==0)=false:=beq_eq_false_iff_ne.2 hs
    have HB3:=Hy hb3
    clear hs hb3
    go_enter Tryz.func181,Tryz.ntmps181
    go_wp2
    refine bodyPost_end (results_none rfl _ _ _) rfl ?_
    exact⟨rfl,HB3.out,ExtC.ofExt hx0⟩
end
section
open Go.RowKit
set_option maxRecDepth 100000 in
set_option maxHeartbeats 8000000 in
theorem CheckCond_any (c:Cd) (v:Value) (P:Nat->Prop) (w:World) (hg:GoodN w) (hc:CdIn P w c v) (hsm:SmallC c) (hcnt:cnt c<=100000000) :
 Calls Tryz.prog 101 #[v] w fun e w'=>e=.returned (.int .i64 (checkC c))∧Ext w w':=by
 have hcd:CdIn (fun k=>k < w.heap.size) w c v:=hc.imp fun b hb _=>hb
 obtain⟨k,n,x,A,m,cp,rfl⟩:=hc.cells
 clear hc
 have hxb:Ext w (((w.alloc (.cells #[.int .i64 k,.string n,.string x,.slice A m cp] 52)).alloc (.cells #[.int .i64 0] 3)).alloc (.cells #[.bool false] 4)):=(((Ext.refl w).alloc _).alloc _).alloc _
 have bx:=((Blk.new w 52 #[.int .i64 k,.string n,.string x,.slice A m cp]).alloc (.cells #[.int .i64 0] 3)).alloc (.cells #[.bool false] 4)
 have b1:=(Blk.new (w.alloc (.cells #[.int .i64 k,.string n,.string x,.slice A m cp] 52)) 3 #[.int .i64 0]).alloc (.cells #[.bool false] 4)
 have b2:=Blk.new ((w.alloc (.cells #[.int .i64 k,.string n,.string x,.slice A m cp] 52)).alloc (.cells #[.int .i64 0] 3)) 4 #[.bool false]
 rw[World.size_alloc] at b1
 rw[World.size_alloc,World.size_alloc] at b2
 have hB0:w.heap.size+1+1+1<=(((w.alloc (.cells #[.int .i64 k,.string n,.string x,.slice A m cp] 52)).alloc (.cells #[.int .i64 0] 3)).alloc (.cells #[.bool false] 4)).heap.size:=by rw[World.size_alloc,World.size_alloc,World.size_alloc];exact Nat.le_refl _
 have hw1:=walk_any 172 #[.pointer (some ⟨w.heap.size+1,0,none⟩),.pointer (some ⟨w.heap.size+1+1,0,none⟩)] (fun xs w=>by kernel_rfl) (fun k=>k < w.heap.size) (fun k=>k=w.heap.size+1∨k=w.heap.size+1+1) (w.heap.size+1+1+1)
  (fun (st:Int × Bool) W=>(Blk W (w.heap.size+1) 3 #[.int .i64 st.1]∧Blk W (w.heap.size+1+1) 4 #[.bool st.2])∧w.heap.size+1+1+1<=W.heap.size) step1
  (fun st W W' h hx=>⟨⟨h.1.1.ext hx,h.1.2.ext hx⟩,Nat.le_trans h.2 hx.size⟩) (fun k hk=>by omega) (fun st W h=>h.2) (fun k hk h=>by omega)
  (fun c v lev st W hl hs hcv h=>(visit1_any (w.heap.size+1) (w.heap.size+1+1) (by omega) c v lev st W _ hl hcv h.1.1 h.1.2).mono fun e W' ⟨a,b,d⟩=>⟨a,⟨b,Nat.le_trans h.2 d.size⟩,d⟩)
  (cnt c) c (Nat.le_refl _) 0 _ (0,false) _ (by omega) hsm (hcd.ext hxb) ⟨⟨b1,b2⟩,hB0⟩
 rw[show ((0:Nat):Int)=0 from rfl] at hw1
 have hsx:=hxb.size
 have HW1:=Hy hw1
 have hch:checkC c=if 100 < cnt c then 4 else if firstErr (prt 0 c)≠0 then firstErr (prt 0 c) else if (prt 0 c).any (fun p=>decide (20 < p.2))=true then 4 else 0:=rfl
 rw[hch]
 have hlen:=prt_len 0 c
 clear hw1 hch
 by_cases hbig:100 < cnt c
 ·have hl:=run1_large (prt 0 c) 0 false (by omega) (by omega) (by omega)
  rw[if_pos hbig]
  generalize (runP step1 (prt 0 c) (0,false)).1=S at *
  obtain⟨s1,s2⟩:=S
  have hl:s1=101:=hl
  subst hl
  go_enter Tryz.func101,Tryz.ntmps101
  go_wp2_with fail
  refine HW1.out.mono ?_
  rintro e W1 ⟨rfl,⟨⟨hb1,hb2⟩,hB1⟩,hx1⟩
  have c1:=hb1.cell
  have hxf:Ext w W1:=ExtC.ext hxb hx1 (fun i hi=>by omega)
  clear bx b1 b2 hb1 hb2 hx1
  go_wp2
  go_ret
  exact⟨rfl,hxf⟩
 have hsmall:=run1_small (prt 0 c) 0 false (by omega) (by omega)
 rw[if_neg hbig]
 have hs1:(runP step1 (prt 0 c) (0,false)).1=(((cnt c:Nat):Int),(prt 0 c).any fun q=>decide (20 < q.2)):=by rw[hsmall,hlen];simp
 rw[hs1] at HW1
 have hnc:¬ (100:Int) < (cnt c:Int):=by omega
 generalize (prt 0 c).any (fun q=>decide (20 < q.2))=dp at *
 clear hsmall hs1
 obtain⟨R,hR⟩:∃ R:Int,R=(if firstErr (prt 0 c)≠0 then firstErr (prt 0 c) else if dp=true then 4 else 0):=⟨_,rfl⟩
 rw[<-hR]
 have HR:=Hy hR
 clear hR
 go_enter Tryz.func101,Tryz.ntmps101
 go_wp2_with fail
 refine HW1.out.mono ?_
 rintro e W1 ⟨rfl,⟨⟨hb1,hb2⟩,hB1⟩,hx1⟩
 have c1:=hb1.cell;have c2:=hb2.cell
 have bx1:=bx.extC hx1 (by omega)
 have cx:=bx1.cell
 have hxf:Ext w W1:=ExtC.ext hxb hx1 (fun i hi=>by omega)
 have hz1:=hxf.size
 have b3:=Blk.new W1 24 #[.int .i64 0]
 have hx3:Ext W1 (W1.alloc (.cells #[.int .i64 0] 24)):=(Ext.refl W1).alloc _
 have hw2:=walk_any 173 #[.pointer (some ⟨W1.heap.size,0,none⟩)] (fun xs w=>by kernel_rfl) (fun k=>k < w.heap.size) (fun k=>k=W1.heap.size) (W1.heap.size+1)
  (fun (st:Int) W=>Ext w W∧Blk W W1.heap.size 24 #[.int .i64 st]∧W1.heap.size+1<=W.heap.size) step2
  (fun st W W' h hx=>⟨h.1.trans hx,h.2.1.ext hx,Nat.le_trans h.2.2 hx.size⟩) (fun k hk=>by omega) (fun st W h=>h.2.2) (fun k hk h=>by omega)
  (fun c v lev st W hl hs hcv h=>(visit2_any W1.heap.size c v lev st W _ (hg.ext h.1) hs hcv h.2.1).mono fun e W' ⟨a,b,d⟩=>⟨a,⟨ExtC.ext h.1 d (fun i hi=>by omega),b,Nat.le_trans h.2.2 d.size⟩,d⟩)
  (cnt c) c (Nat.le_refl _) 0 _ 0 _ (by omega) hsm ((hcd.ext hxf).ext hx3) ⟨hxf.trans hx3,b3,by rw[World.size_alloc];exact Nat.le_refl _⟩
 rw[show ((0:Nat):Int)=0 from rfl] at hw2
 have hfe:(runP step2 (prt 0 c) 0).1=firstErr (prt 0 c):=run2_first _
 rw[hfe] at hw2
 generalize firstErr (prt 0 c)=E at *
 have HW2:=Hy hw2
 have HB1:=Hy hb1;have HB2:=Hy hb2
 have hl1:=hb1.lt;have hl2:=hb2.lt;have hlx:=bx1.lt
 clear hw2 hfe b1 b2 bx b3 hb1 hx1 hxf hx3 hlen hcd hsm
 go_wp2_with fail
 refine HW2.out.mono ?_
 rintro e W2 ⟨rfl,⟨hxf2,hb3,hB2⟩,hx2⟩
 have hb22:=(hb2.alloc (.cells #[.int .i64 0] 24)).extC hx2 (by omega)
 have d2:=hb22.cell;have d3:=hb3.cell
 have hR:=HR.out
 by_cases hE:E=0
 ·have eE:(E==0)=true:=beq_iff_eq.2 hE
  rw[if_neg (fun h=>h hE)] at hR
  have HE:=Hy hE
  clear hE
  cases dp
  ·rw[if_neg (by decide)] at hR
   have HRz:=Hy hR
   clear hR HR
   go_wp2
   go_ret
   exact⟨ret_int (by rw[HRz.out];exact HE.out),hxf2⟩
  ·rw[if_pos rfl] at hR
   have HRz:=Hy hR
   clear hR HR
   go_wp2
   go_ret
   exact⟨ret_int HRz.out.symm,hxf2⟩
 ·have eE:(E==0)=false:=beq_eq_false_iff_ne.2 hE
  rw[if_pos hE] at hR
  have HRz:=Hy hR
  clear hE hR HR
  go_wp2
  go_ret
  exact⟨ret_int HRz.out.symm,hxf2⟩
set_option maxRecDepth 100000 in
set_option maxHeartbeats 8000000 in
theorem CondError_any (c:Cd) (v:Value) (P:Nat->Prop) (w:World) (hg:GoodN w) (hc:CdIn P w c v) (hsm:SmallC c) (hcnt:cnt c<=100000000) :
 Calls Tryz.prog 105 #[v] w fun e w'=>e=.returned (.int .i64 (checkC c))∧Ext w w':=by
 have hcd:CdIn (fun k=>k < w.heap.size) w c v:=hc.imp fun b hb _=>hb
 obtain⟨k,n,x,A,m,cp,rfl⟩:=hc.cells
 clear hc
 have hxb:Ext w (((w.alloc (.cells #[.int .i64 k,.string n,.string x,.slice A m cp] 52)).alloc (.cells #[.int .i64 0] 3)).alloc (.cells #[.int .i64 0] 3)):=(((Ext.refl w).alloc _).alloc _).alloc _
 have bx:=((Blk.new w 52 #[.int .i64 k,.string n,.string x,.slice A m cp]).alloc (.cells #[.int .i64 0] 3)).alloc (.cells #[.int .i64 0] 3)
 have b1:=(Blk.new (w.alloc (.cells #[.int .i64 k,.string n,.string x,.slice A m cp] 52)) 3 #[.int .i64 0]).alloc (.cells #[.int .i64 0] 3)
 have b2:=Blk.new ((w.alloc (.cells #[.int .i64 k,.string n,.string x,.slice A m cp] 52)).alloc (.cells #[.int .i64 0] 3)) 3 #[.int .i64 0]
 rw[World.size_alloc] at b1
 rw[World.size_alloc,World.size_alloc] at b2
 have hB0:w.heap.size+1+1+1<=(((w.alloc (.cells #[.int .i64 k,.string n,.string x,.slice A m cp] 52)).alloc (.cells #[.int .i64 0] 3)).alloc (.cells #[.int .i64 0] 3)).heap.size:=by rw[World.size_alloc,World.size_alloc,World.size_alloc];exact Nat.le_refl _
 have hw1:=CondParts_any 180 #[.pointer (some ⟨w.heap.size+1,0,none⟩),.pointer (some ⟨w.heap.size+1+1,0,none⟩)] (fun xs w=>by kernel_rfl) (fun k=>k < w.heap.size) (fun k=>k=w.heap.size+1∨k=w.heap.size+1+1) (w.heap.size+1+1+1)
  (fun (st:Int × Int) W=>(Blk W (w.heap.size+1) 3 #[.int .i64 st.1]∧Blk W (w.heap.size+1+1) 3 #[.int .i64 st.2])∧w.heap.size+1+1+1<=W.heap.size) step3
  (fun st W W' h hx=>⟨⟨h.1.1.ext hx,h.1.2.ext hx⟩,Nat.le_trans h.2 hx.size⟩) (fun k hk=>by omega) (fun st W h=>h.2) (fun k hk h=>by omega) (fun _ _ _=>rfl)
  (fun c v lev st W hl hs hcv h=>(visit3_any (w.heap.size+1) (w.heap.size+1+1) (by omega) c v lev st W _ hcv h.1.1 h.1.2).mono fun e W' ⟨a,b,d⟩=>⟨a,⟨b,Nat.le_trans h.2 d.size⟩,d⟩)
  (cnt c) c (Nat.le_refl _) 0 _ (0,0) _ (by omega) hsm (hcd.ext hxb) ⟨⟨b1,b2⟩,hB0⟩
 rw[show ((0:Nat):Int)=0 from rfl] at hw1
 have hsx:=hxb.size
 have HW1:=Hy hw1
 have hch:checkC c=if 100 < cnt c then 4 else if firstErr (prt 0 c)≠0 then firstErr (prt 0 c) else if (prt 0 c).any (fun p=>decide (20 < p.2))=true then 4 else 0:=rfl
 rw[hch]
 have hlen:=prt_len 0 c
 clear hw1 hch
 have hrun:=run3_all (prt 0 c) 0 0 (by omega) (by omega)
 generalize (runP step3 (prt 0 c) (0,0)).1=S at *
 obtain⟨s1,s2⟩:=S
 obtain⟨hr1,hr2⟩:=hrun
 dsimp only at hr1 hr2
 rw[hlen] at hr1
 by_cases hbig:100 < cnt c
 ·rw[if_pos hbig]
  have hs1:(100:Int) < s1:=by omega
  clear hr1 hr2
  go_enter Tryz.func105,Tryz.ntmps105
  go_wp2_with fail
  refine HW1.out.mono ?_
  rintro e W1 ⟨rfl,⟨⟨hb1,hb2⟩,hB1⟩,hx1⟩
  have c1:=hb1.cell
  have hxf:Ext w W1:=ExtC.ext hxb hx1 (fun i hi=>by omega)
  clear bx b1 b2 hb1 hb2 hx1
  go_wp2
  go_ret
  exact⟨rfl,hxf⟩
 rw[if_neg hbig]
 have hs1:¬ (100:Int) < s1:=by omega
 have hr3:(20 < s2)↔((prt 0 c).any fun q=>decide (20 < q.2))=true:=by rw[hr2];exact⟨fun h=>h.elim (fun x=>absurd x (by decide)) id,.inr⟩
 generalize (prt 0 c).any (fun q=>decide (20 < q.2))=dp at *
 obtain⟨Wn,hWn⟩:∃ Wn:Int,(if decide ((20:Int) < s2)=true then (4:Int) else 0)=Wn:=⟨_,rfl⟩
 have hwh:=fun W=>When_any (decide ((20:Int) < s2)) 4 W
 have hfs:(if firstErr (prt 0 c)≠0 then firstErr (prt 0 c) else if dp=true then 4 else 0)=firstI [firstErr (prt 0 c),Wn]:=by
  generalize firstErr (prt 0 c)=E
  rw[<-hWn]
  by_cases hE:E=0
  ·subst hE
   rw[if_neg (by decide)]
   by_cases h20:(20:Int) < s2
   ·rw[decide_eq_true h20,hr3.1 h20];rfl
   ·rw[decide_eq_false h20,(Bool.not_eq_true _).mp (fun h=>h20 (hr3.2 h))];rfl
  ·rw[if_pos hE]
   simp[firstI,hE]
 rw[hfs]
 simp only[hWn] at hwh
 have HWH:=Hy hwh
 clear hwh hfs hWn hr1 hr2 hr3
 go_enter Tryz.func105,Tryz.ntmps105
 go_wp2_with fail
 refine HW1.out.mono ?_
 rintro e W1 ⟨rfl,⟨⟨hb1,hb2⟩,hB1⟩,hx1⟩
 have c1:=hb1.cell;have c2:=hb2.cell
 have bx1:=bx.extC hx1 (by omega)
 have cx:=bx1.cell
 have hxf:Ext w W1:=ExtC.ext hxb hx1 (fun i hi=>by omega)
 have hz1:=hxf.size
 have b3:=Blk.new W1 24 #[.int .i64 0]
 have hx3:Ext W1 (W1.alloc (.cells #[.int .i64 0] 24)):=(Ext.refl W1).alloc _
 have hw2:=CondParts_any 181 #[.pointer (some ⟨W1.heap.size,0,none⟩)] (fun xs w=>by kernel_rfl) (fun k=>k < w.heap.size) (fun k=>k=W1.heap.size) (W1.heap.size+1)
  (fun (st:Int) W=>Ext w W∧Blk W W1.heap.size 24 #[.int .i64 st]∧W1.heap.size+1<=W.heap.size) step4
  (fun st W W' h hx=>⟨h.1.trans hx,h.2.1.ext hx,Nat.le_trans h.2.2 hx.size⟩) (fun k hk=>by omega) (fun st W h=>h.2.2) (fun k hk h=>by omega) (fun _ _ _=>rfl)
  (fun c v lev st W hl hs hcv h=>(visit4_any W1.heap.size c v lev st W _ (hg.ext h.1) hs hcv h.2.1).mono fun e W' ⟨a,b,d⟩=>⟨a,⟨ExtC.ext h.1 d (fun i hi=>by omega),b,Nat.le_trans h.2.2 d.size⟩,d⟩)
  (cnt c) c (Nat.le_refl _) 0 _ 0 _ (by omega) hsm ((hcd.ext hxf).ext hx3) ⟨hxf.trans hx3,b3,by rw[World.size_alloc];exact Nat.le_refl _⟩
 rw[show ((0:Nat):Int)=0 from rfl] at hw2
 have hfe:(runP step4 (prt 0 c) 0).1=firstErr (prt 0 c):=by rw[run4_first,if_pos rfl]
 rw[hfe] at hw2
 obtain⟨E,hE0⟩:∃ E,firstErr (prt 0 c)=E:=⟨_,rfl⟩
 rw[hE0] at hw2
 have HE0:=Hy hE0
 clear hE0
 have HW2:=Hy hw2
 have HB1:=Hy hb1;have HB2:=Hy hb2
 have hl1:=hb1.lt;have hl2:=hb2.lt;have hlx:=bx1.lt
 clear hw2 hfe b1 b2 bx b3 hb1 hx1 hxf hx3 hlen hcd hsm
 go_wp2_with fail
 refine HW2.out.mono ?_
 rintro e W2 ⟨rfl,⟨hxf2,hb3,hB2⟩,hx2⟩
 have hb22:=(hb2.alloc (.cells #[.int .i64 0] 24)).extC hx2 (by omega)
 have d2:=hb22.cell;have d3:=hb3.cell
 have hl3:=hb3.lt;have hl22:=hb22.lt
 have q2:W2.cell? ⟨w.heap.size+1+1,0,none⟩=some (.int .i64 s2):=d2 0
 have q3:W2.cell? ⟨W1.heap.size,0,none⟩=some (.int .i64 E):=d3 0
 clear d2 d3
 go_wp2_with fail
 go_region_held3 (fun w'=>w'.cell? ⟨w.heap.size+1+1,0,none⟩=some (.int .i64 s2)∧w'.cell? ⟨W1.heap.size,0,none⟩=some (.int .i64 E)) (first|(go_keep;done)|skip)
  (first
  | (go_at_call 38;refine (HWH.out _).mono ?_;rintro e w' ⟨rfl,rfl⟩)
  | (go_at_call 11;refine (First_any _ _ [E,Wn] _ ?_ (by simp)).mono ?_;(next=>(intro k hk;match k,hk with|0,_=>(simp;done)|1,_=>(simp;done)));rintro e w' ⟨rfl,rfl⟩))
 all_goals
  go_wp2
  go_ret
  refine⟨?_,?_⟩
  ·simp[HE0.out]
  ·exact (hxf2.alloc _).drew
end
section
open Go.RowKit
theorem load_cells {w:World} {b i:Nat} (cs:List Value) (hl:cs.length=18) (h:∀ j v,cs[j]?=some v->w.cell? ⟨b,i+j,none⟩=some v):(loadVar 66 ⟨b,i,none⟩).run Tryz.prog w=.ok (.agg cs.toArray) w:=by
 have h1:(isAgg 66).run Tryz.prog w=.ok true w:=by kernel_rfl
 have h2:(sizeOf 66).run Tryz.prog w=.ok 18 w:=by kernel_rfl
 have h3:(loadCells ⟨b,i,none⟩ 18).run Tryz.prog w=.ok cs.toArray w:=by
  rw[<-hl]
  refine run_loadCells_list w ⟨b,i,none⟩ cs fun j v hj=>?_
  have hadd:(⟨b,i,none⟩:Addr).add j=⟨b,i+j,none⟩:=by unfold Addr.add;split<;>simp_all
  rw[hadd]
  exact h j v hj
 simp only[loadVar,Sem.run_bind,h1,Result.andThen,if_true,h2,h3,Sem.run_pure]
theorem load_row {w:World} {b i:Nat} {o:Of} {A:Option Addr} {c:Nat} {k:Int} {n x:ByteArray} {A2:Option Addr} {m c2:Nat} (h:OfRow w b i o A c k n x A2 m c2):(loadVar 66 ⟨b,i,none⟩).run Tryz.prog w=.ok (ofV o A c k n x A2 m c2) w:=by
 refine load_cells (ofCs o A c k n x A2 m c2) rfl fun j v hj=>?_
 match j,hj with
 | 0,hj=>injection hj with hj;subst hj;exact h.r0
 | 1,hj=>injection hj with hj;subst hj;exact h.r1
 | 2,hj=>injection hj with hj;subst hj;exact h.r2
 | 3,hj=>injection hj with hj;subst hj;exact h.r3
 | 4,hj=>injection hj with hj;subst hj;exact h.r4
 | 5,hj=>injection hj with hj;subst hj;exact h.r5
 | 6,hj=>injection hj with hj;subst hj;exact h.r6
 | 7,hj=>injection hj with hj;subst hj;exact h.r7
 | 8,hj=>injection hj with hj;subst hj;exact h.r8
 | 9,hj=>injection hj with hj;subst hj;exact h.r9
 | 10,hj=>injection hj with hj;subst hj;exact h.r10
 | 11,hj=>injection hj with hj;subst hj;exact h.r11
 | 12,hj=>injection hj with hj;subst hj;exact h.r12
 | 13,hj=>injection hj with hj;subst hj;exact h.r13
 | 14,hj=>injection hj with hj;subst hj;exact h.r14
 | 15,hj=>injection hj with hj;subst hj;exact h.r15
 | 16,hj=>injection hj with hj;subst hj;exact h.r16
 | 17,hj=>injection hj with hj;subst hj;exact h.r17
 | j+18,hj=>simp at hj
theorem load_blk {w:World} {g:Nat} {cs:Array Value} (h:Blk w g 66 cs) (hl:cs.size=18):(loadVar 66 ⟨g,0,none⟩).run Tryz.prog w=.ok (.agg cs) w :=
 load_cells cs.toList (by simpa using hl) fun j v hj=>by
  rw[Nat.zero_add,h.cell j]
  simpa using hj
def OffsIn (P:Nat->Prop) (w:World):List Of->List Value->Prop
 | [],xs=>xs=[]
 | o::l,xs=>∃ A c k n x A2 m c2 ys,xs=ofCs o A c k n x A2 m c2++ys∧OfIn P w o A k n x A2 m c2∧OffsIn P w l ys
theorem OffsIn.length {P:Nat->Prop} {w:World}:∀ {l:List Of} {xs:List Value},OffsIn P w l xs->xs.length=l.length * 18
 | [],xs,h=>by rw[show xs=[] from h];rfl
 | o::l,xs,h=>by
   obtain⟨A,c,k,n,x,A2,m,c2,ys,rfl,_,h⟩:=h
   rw[List.length_append,show (ofCs o A c k n x A2 m c2).length=18 from rfl,h.length,List.length_cons]
   omega
theorem OffsIn.keep {P P':Nat->Prop} {w w':World} (hp:∀ b,b < w.heap.size->P b->P' b) (hc:∀ b o v,P b->w.cell? ⟨b,o,none⟩=some v->w'.cell? ⟨b,o,none⟩=some v):∀ {l:List Of} {xs:List Value},OffsIn P w l xs->OffsIn P' w' l xs
 | [],_,h=>h
 | _::_,_,h=>by
   obtain⟨A,c,k,n,x,A2,m,c2,ys,e,hi,h⟩:=h
   exact⟨A,c,k,n,x,A2,m,c2,ys,e,hi.keep hp hc,h.keep hp hc⟩
theorem OffsIn.snoc {P:Nat->Prop} {w:World} {o:Of} {A:Option Addr} {c:Nat} {k:Int} {n x:ByteArray} {A2:Option Addr} {m c2:Nat} (ho:OfIn P w o A k n x A2 m c2):∀ {l:List Of} {xs:List Value},OffsIn P w l xs->OffsIn P w (l++[o]) (xs++ofCs o A c k n x A2 m c2)
 | [],xs,h=>by
   rw[show xs=[] from h]
   exact⟨A,c,k,n,x,A2,m,c2,[],by simp,ho,rfl⟩
 | _::_,_,h=>by
   obtain⟨A',c',k',n',x',A2',m',c2',ys,e,hi,h⟩:=h
   exact⟨A',c',k',n',x',A2',m',c2',_,by rw[e,List.append_assoc],hi,h.snoc ho⟩
theorem OffsIn.last {P:Nat->Prop} {w:World} {o:Of}:∀ {l:List Of} {xs:List Value},OffsIn P w (l++[o]) xs->∃ ys A c k n x A2 m c2,xs=ys++ofCs o A c k n x A2 m c2∧OffsIn P w l ys∧OfIn P w o A k n x A2 m c2
 | [],xs,h=>by
   obtain⟨A,c,k,n,x,A2,m,c2,ys,e,hi,h⟩:=h
   refine⟨[],A,c,k,n,x,A2,m,c2,?_,rfl,hi⟩
   rw[e,show ys=[] from h,List.append_nil,List.nil_append]
 | _::_,_,h=>by
   obtain⟨A',c',k',n',x',A2',m',c2',ys,e,hi,h⟩:=h
   obtain⟨zs,A,c,k,n,x,A2,m,c2,e2,h2,ho⟩:=h.last
   exact⟨_,A,c,k,n,x,A2,m,c2,by rw[e,e2,<-List.append_assoc],⟨A',c',k',n',x',A2',m',c2',zs,rfl,hi,h2⟩,ho⟩
theorem OffsIn.at_ {P:Nat->Prop} {w:World}:∀ {l:List Of} {xs:List Value},OffsIn P w l xs->∀ j (hj:j < l.length),∃ A c k n x A2 m c2,OfIn P w l[j] A k n x A2 m c2∧∀ i u,(ofCs l[j] A c k n x A2 m c2)[i]?=some u->xs[j * 18+i]?=some u
 | [],_,_,j,hj=>absurd hj (Nat.not_lt_zero _)
 | o::l,xs,h,j,hj=>by
   obtain⟨A,c,k,n,x,A2,m,c2,ys,rfl,hi,h⟩:=h
   cases j with
   | zero =>
     refine⟨A,c,k,n,x,A2,m,c2,hi,fun i u hu=>?_⟩
     have hlt:i < (ofCs o A c k n x A2 m c2).length:=(List.getElem?_eq_some_iff.1 hu).1
     rw[Nat.zero_mul,Nat.zero_add,List.getElem?_append_left hlt]
     exact hu
   | succ j =>
     obtain⟨A',c',k',n',x',A2',m',c2',hi',h'⟩:=h.at_ j (by simpa using hj)
     refine⟨A',c',k',n',x',A2',m',c2',hi',fun i u hu=>?_⟩
     have he:(ofCs o A c k n x A2 m c2).length=18:=rfl
     rw[List.getElem?_append_right (by rw[he];omega),he,show (j+1) * 18+i - 18=j * 18+i by omega]
     exact h' i u hu
theorem OffsIn.rd {P:Nat->Prop} {w:World} {l:List Of} {xs:List Value} {g:Nat} (h:OffsIn P w l xs) (hc:∀ j u,xs[j]?=some u->w.cell? ⟨g,j,none⟩=some u):RdO w (some ⟨g,0,none⟩) l:=fun _=>by
 refine⟨g,0,rfl,fun j hj=>?_⟩
 obtain⟨A,c,k,n,x,A2,m,c2,hi,hx⟩:=h.at_ j hj
 have hz:∀ i u,(ofCs l[j] A c k n x A2 m c2)[i]?=some u->w.cell? ⟨g,0+j * 18+i,none⟩=some u:=fun i u hu=>by
  rw[Nat.zero_add];exact hc _ _ (hx i u hu)
 exact⟨A,c,k,n,x,A2,m,c2,hz 0 _ rfl,hz 1 _ rfl,hz 2 _ rfl,hz 3 _ rfl,hz 4 _ rfl,hz 5 _ rfl,hz 6 _ rfl,hz 7 _ rfl,hz 8 _ rfl,hz 9 _ rfl,hz 10 _ rfl,hz 11 _ rfl,hz 12 _ rfl,hz 13 _ rfl,hz 14 _ rfl,hz 15 _ rfl,hz 16 _ rfl,hz 17 _ rfl,
  hi.keep (fun _ _ _=>trivial) (fun _ _ _ _ h=>h)⟩
def Far (b:Nat) (v:Value) (k:Nat):Prop:=b < k∧v.ownBlock≠some k
structure RSt (w:World) (b:Nat) (ch:ByteArray) (sr tm:Int) (v:Value) (l:List Of) (st fl:Int):Prop where
 blk:Blk w b 173 #[.string ch,.int .i64 sr,.int .i64 tm,v,.int .i64 st,.int .i64 fl]
 own:∃ xs,w.ownsRow (b+1) 66 18 v l.length xs∧OffsIn (Far b v) w l xs
 small:∀ o∈l,SmallO o
 cz:ch.size<=2097152
structure RSl (w:World) (b:Nat) (ch:ByteArray) (sr tm:Int) (g cap:Nat) (li:List Of) (ys:List Value) (o:Of) (A:Option Addr) (c:Nat) (k:Int) (n x:ByteArray) (A2:Option Addr) (m c2:Nat) (st fl:Int):Prop where
 blk:Blk w b 173 #[.string ch,.int .i64 sr,.int .i64 tm,.slice (some ⟨g,0,none⟩) (li.length+1) cap,.int .i64 st,.int .i64 fl]
 own:w.ownsRow (b+1) 66 18 (.slice (some ⟨g,0,none⟩) (li.length+1) cap) (li.length+1) (ys++ofCs o A c k n x A2 m c2)
 offs:OffsIn (fun j=>b < j∧j≠g) w li ys
 has:OfIn (fun j=>b < j∧j≠g) w o A k n x A2 m c2
 small:(∀ o∈li,SmallO o)∧SmallO o
 cz:ch.size<=2097152
theorem far_slice {b g n c k:Nat}:Far b (.slice (some ⟨g,0,none⟩) n c) k↔(b < k∧k≠g):=by
 unfold Far
 simp only[Value.ownBlock]
 constructor
 ·rintro ⟨h1,h2⟩
  exact⟨h1,fun h=>h2 (by rw[h])⟩
 ·rintro ⟨h1,h2⟩
  exact⟨h1,fun h=>h2 (by injection h with h;exact h.symm)⟩
theorem RSt.split {w:World} {b:Nat} {ch:ByteArray} {sr tm:Int} {v:Value} {l:List Of} {st fl:Int} (h:RSt w b ch sr tm v l st fl) (hl:l≠[]) :
 ∃ g cap li ys o A c k n x A2 m c2,v=.slice (some ⟨g,0,none⟩) (li.length+1) cap∧l=li++[o]∧b < g∧RSl w b ch sr tm g cap li ys o A c k n x A2 m c2 st fl:=by
 obtain⟨hb,⟨xs,ho,hof⟩,hs,hcz⟩:=h
 obtain⟨li,o,rfl⟩:∃ li o,l=li++[o]:=⟨l.dropLast,l.getLast hl,(List.dropLast_concat_getLast hl).symm⟩
 obtain⟨ys,A,c,k,n,x,A2,m,c2,rfl,h1,h2⟩:=hof.last
 rw[List.length_append,List.length_singleton] at ho
 obtain⟨g,cap,rfl,hlt,hB,_,_⟩:=own_form ho (Nat.succ_pos _)
 refine⟨g,cap,li,ys,o,A,c,k,n,x,A2,m,c2,rfl,rfl,hB,hb,ho,?_,?_,⟨fun q hq=>hs q (List.mem_append_left _ hq),hs o (by simp)⟩,hcz⟩
 ·exact h1.keep (fun _ _ hk=>far_slice.1 hk) (fun _ _ _ _ e=>e)
 ·exact h2.keep (fun _ _ hk=>far_slice.1 hk) (fun _ _ _ _ e=>e)
section
variable {w:World} {b:Nat} {ch:ByteArray} {sr tm:Int} {g cap:Nat} {li:List Of} {ys:List Value} {o:Of} {A:Option Addr} {c:Nat} {k:Int} {n x:ByteArray} {A2:Option Addr} {m c2:Nat} {st fl:Int}
theorem RSl.whole (h:RSl w b ch sr tm g cap li ys o A c k n x A2 m c2 st fl):RSt w b ch sr tm (.slice (some ⟨g,0,none⟩) (li.length+1) cap) (li++[o]) st fl:=by
 refine⟨h.blk,⟨_,by rw[List.length_append,List.length_singleton];exact h.own,?_⟩,fun q hq=>?_,h.cz⟩
 ·exact OffsIn.snoc (h.has.keep (fun _ _ hk=>far_slice.2 hk) (fun _ _ _ _ e=>e)) (h.offs.keep (fun _ _ hk=>far_slice.2 hk) (fun _ _ _ _ e=>e))
 ·rcases List.mem_append.1 hq with h1|h1
  ·exact h.small.1 q h1
  ·rw[List.mem_singleton] at h1;subst h1;exact h.small.2
theorem RSl.base (h:RSl w b ch sr tm g cap li ys o A c k n x A2 m c2 st fl):b < g∧g < w.heap.size:=by
 have:=h.own.lt g rfl
 omega
theorem RSl.len (h:RSl w b ch sr tm g cap li ys o A c k n x A2 m c2 st fl):ys.length=li.length * 18:=h.offs.length
theorem RSl.cellAt (h:RSl w b ch sr tm g cap li ys o A c k n x A2 m c2 st fl) (j:Nat) (hj:j < 18):w.cell? ⟨g,li.length * 18+j,none⟩=(ofCs o A c k n x A2 m c2)[j]?:=by
 rw[h.own.cellAt _ (by omega),<-h.len,List.getElem?_append_right (Nat.le_add_right _ _),Nat.add_sub_cancel_left]
theorem RSl.free (h:RSl w b ch sr tm g cap li ys o A c k n x A2 m c2 st fl) (j:Nat):w.frozen? ⟨g,j,none⟩=false:=h.own.frozenAt j
theorem RSl.ext {w':World} (h:RSl w b ch sr tm g cap li ys o A c k n x A2 m c2 st fl) (hx:Ext w w'):RSl w' b ch sr tm g cap li ys o A c k n x A2 m c2 st fl :=
 ⟨h.blk.ext hx,own_ext h.own hx,h.offs.keep (fun _ _ h=>h) (fun _ _ _ _ e=>hx.cell e),h.has.ext hx,h.small,h.cz⟩
theorem far_keep (p:Addr) (hp:p.block=b∨p.block=g) (u:Value):∀ j i v,(b < j∧j≠g)->w.cell? ⟨j,i,none⟩=some v->(w.setCell p u).cell? ⟨j,i,none⟩=some v:=fun j i v hj e =>
 cell_set_far (by rcases hp with h|h<;>omega) e
theorem RSl.put (h:RSl w b ch sr tm g cap li ys o A c k n x A2 m c2 st fl) (j:Nat) (u:Value) {o':Of} {A':Option Addr} {c':Nat} {k':Int} {n' x':ByteArray} {A2':Option Addr} {m' c2':Nat}
 (hcs:(ofCs o A c k n x A2 m c2).set j u=ofCs o' A' c' k' n' x' A2' m' c2') (hin:OfIn (fun j=>b < j∧j≠g) w o' A' k' n' x' A2' m' c2') (hs:SmallO o') :
 RSl (w.setCell ⟨g,li.length * 18+j,none⟩ u) b ch sr tm g cap li ys o' A' c' k' n' x' A2' m' c2' st fl:=by
 have hb:=h.base
 refine⟨h.blk.far (by dsimp only;omega) _,?_,h.offs.keep (fun _ _ h=>h) (far_keep (b:=b) (g:=g) _ (.inr rfl) u),hin.keep (fun _ _ h=>h) (far_keep (b:=b) (g:=g) _ (.inr rfl) u),⟨h.small.1,hs⟩,h.cz⟩
 have:=(h.own.stored (li.length * 18+j) u).1
 rw[<-h.len,List.set_append_right _ _ (Nat.le_add_right _ _),Nat.add_sub_cancel_left,hcs,h.len] at this
 exact this
theorem RSl.putW (h:RSl w b ch sr tm g cap li ys o A c k n x A2 m c2 st fl) {q:Cd} {k':Int} {n' x':ByteArray} {A2':Option Addr} {m' c2':Nat} (hcd:CdIn (fun j=>b < j∧j≠g) w q (.agg #[.int .i64 k',.string n',.string x',.slice A2' m' c2'])) (hs:SmallC q) (hq:cnt q<=100000000) :
 RSl ((((w.setCell ⟨g,li.length * 18+8,none⟩ (.int .i64 k')).setCell ⟨g,li.length * 18+9,none⟩ (.string n')).setCell ⟨g,li.length * 18+10,none⟩ (.string x')).setCell ⟨g,li.length * 18+11,none⟩ (.slice A2' m' c2')) b ch sr tm g cap li ys { o with wh:=q } A c k' n' x' A2' m' c2' st fl:=by
 have hb:=h.base
 have hbg:b≠g:=by omega
 have hk:∀ j i u,(b < j∧j≠g)->w.cell? ⟨j,i,none⟩=some u->((((w.setCell ⟨g,li.length * 18+8,none⟩ (.int .i64 k')).setCell ⟨g,li.length * 18+9,none⟩ (.string n')).setCell ⟨g,li.length * 18+10,none⟩ (.string x')).setCell ⟨g,li.length * 18+11,none⟩ (.slice A2' m' c2')).cell? ⟨j,i,none⟩=some u:=fun j i u hj e =>
  far_keep _ (.inr rfl) _ j i u hj (far_keep _ (.inr rfl) _ j i u hj (far_keep _ (.inr rfl) _ j i u hj (far_keep _ (.inr rfl) _ j i u hj e)))
 have h1:=(h.own.stored (li.length * 18+8) (.int .i64 k')).1
 have h2:=(h1.stored (li.length * 18+9) (.string n')).1
 have h3:=(h2.stored (li.length * 18+10) (.string x')).1
 have h4:=(h3.stored (li.length * 18+11) (.slice A2' m' c2')).1
 have hz:∀ (cs:List Value) (j:Nat) (u:Value),(ys++cs).set (li.length * 18+j) u=ys++cs.set j u:=fun cs j u=>by
  rw[<-h.len,List.set_append_right _ _ (Nat.le_add_right _ _),Nat.add_sub_cancel_left]
 rw[hz,hz,hz,hz] at h4
 refine⟨(((h.blk.far hbg _).far hbg _).far hbg _).far hbg _,h4,h.offs.keep (fun _ _ h=>h) hk,⟨h.has.1.keep (fun _ _ h=>h) hk,hcd.keepP (fun _ _ h=>h) hk⟩,⟨h.small.1,⟨h.small.2.name,h.small.2.vv,h.small.2.sum,h.small.2.fr,h.small.2.len,hs,hq⟩⟩,h.cz⟩
theorem RSl.mark (h:RSl w b ch sr tm g cap li ys o A c k n x A2 m c2 st fl) (st':Int):RSl (w.setCell ⟨b,4,none⟩ (.int .i64 st')) b ch sr tm g cap li ys o A c k n x A2 m c2 st' fl :=
 ⟨h.blk.set 4 _,ownsRow_setCell_below h.own (Nat.lt_succ_self _) _,h.offs.keep (fun _ _ h=>h) (far_keep (b:=b) (g:=g) _ (.inl rfl) _),h.has.keep (fun _ _ h=>h) (far_keep (b:=b) (g:=g) _ (.inl rfl) _),h.small,h.cz⟩
theorem RSl.note (h:RSl w b ch sr tm g cap li ys o A c k n x A2 m c2 st fl) (fl':Int):RSl (w.setCell ⟨b,5,none⟩ (.int .i64 fl')) b ch sr tm g cap li ys o A c k n x A2 m c2 st fl' :=
 ⟨h.blk.set 5 _,ownsRow_setCell_below h.own (Nat.lt_succ_self _) _,h.offs.keep (fun _ _ h=>h) (far_keep (b:=b) (g:=g) _ (.inl rfl) _),h.has.keep (fun _ _ h=>h) (far_keep (b:=b) (g:=g) _ (.inl rfl) _),h.small,h.cz⟩
end
section
variable {w:World} {b:Nat} {ch:ByteArray} {sr tm:Int} {v:Value} {l:List Of} {st fl:Int}
theorem RSt.ext {w':World} (h:RSt w b ch sr tm v l st fl) (hx:Ext w w'):RSt w' b ch sr tm v l st fl:=by
 obtain⟨hb,⟨xs,ho,hof⟩,hs,hcz⟩:=h
 exact⟨hb.ext hx,⟨xs,own_ext ho hx,hof.keep (fun _ _ h=>h) (fun _ _ _ _ e=>hx.cell e)⟩,hs,hcz⟩
theorem RSt.base (h:RSt w b ch sr tm v l st fl):∀ k,v.ownBlock=some k->b < k∧k < w.heap.size:=by
 obtain⟨_,⟨xs,ho,_⟩,_,_⟩:=h
 exact fun k hk=>ho.lt k hk
theorem RSt.keepB (h:RSt w b ch sr tm v l st fl) (i:Nat) (u:Value):∃ xs,(w.setCell ⟨b,i,none⟩ u).ownsRow (b+1) 66 18 v l.length xs∧OffsIn (Far b v) (w.setCell ⟨b,i,none⟩ u) l xs:=by
 obtain⟨_,⟨xs,ho,hof⟩,_,_⟩:=h
 exact⟨xs,ownsRow_setCell_below ho (Nat.lt_succ_self _) _,hof.keep (fun _ _ h=>h) (fun j i v hj e=>cell_set_far (by have:=hj.1;dsimp only;omega) e)⟩
theorem RSt.mark (h:RSt w b ch sr tm v l st fl) (st':Int):RSt (w.setCell ⟨b,4,none⟩ (.int .i64 st')) b ch sr tm v l st' fl:=⟨h.blk.set 4 _,h.keepB _ _,h.small,h.cz⟩
theorem RSt.note (h:RSt w b ch sr tm v l st fl) (fl':Int):RSt (w.setCell ⟨b,5,none⟩ (.int .i64 fl')) b ch sr tm v l st fl':=⟨h.blk.set 5 _,h.keepB _ _,h.small,h.cz⟩
theorem RSt.set0 (h:RSt w b ch sr tm v l st fl) (u:ByteArray) (hu:u.size<=2097152):RSt (w.setCell ⟨b,0,none⟩ (.string u)) b u sr tm v l st fl:=⟨h.blk.set 0 _,h.keepB _ _,h.small,hu⟩
theorem RSt.set1 (h:RSt w b ch sr tm v l st fl) (u:Int):RSt (w.setCell ⟨b,1,none⟩ (.int .i64 u)) b ch u tm v l st fl:=⟨h.blk.set 1 _,h.keepB _ _,h.small,h.cz⟩
theorem RSt.set2 (h:RSt w b ch sr tm v l st fl) (u:Int):RSt (w.setCell ⟨b,2,none⟩ (.int .i64 u)) b ch sr u v l st fl:=⟨h.blk.set 2 _,h.keepB _ _,h.small,h.cz⟩
theorem RSt.low (h:RSt w b ch sr tm v l st fl) {p:Addr} (hp:p.block < b) (u:Value):RSt (w.setCell p u) b ch sr tm v l st fl:=by
 obtain⟨hb,⟨xs,ho,hof⟩,hs,hcz⟩:=h
 exact⟨hb.far (by omega) u,⟨xs,ownsRow_setCell_below ho (by omega) _,hof.keep (fun _ _ h=>h) (fun j i v hj e=>cell_set_far (by have:=hj.1;omega) e)⟩,hs,hcz⟩
theorem RSt.rd (h:RSt w b ch sr tm v l st fl):∃ A c,v=.slice A l.length c∧RdO w A l:=by
 obtain⟨_,⟨xs,ho,hof⟩,_,_⟩:=h
 rcases Nat.eq_zero_or_pos l.length with h0|h0
 ·rcases ho.2 with ⟨rfl,h1⟩|⟨g,cap,cur,rfl,_⟩
  ·exact⟨none,0,by rw[h0],fun hn=>absurd (List.eq_nil_of_length_eq_zero h0) hn⟩
  ·exact⟨_,_,rfl,fun hn=>absurd (List.eq_nil_of_length_eq_zero h0) hn⟩
 ·obtain⟨g,cap,rfl,_,_,_,hc⟩:=own_form ho h0
  exact⟨_,_,rfl,hof.rd hc⟩
end
end
section
open Go.RowKit
abbrev hexS:ByteArray:=⟨#[48,49,50,51,52,53,54,55,56,57,97,98,99,100,101,102]⟩
theorem hex_set (c:UInt8):(bs hexS).contains c=hexB c:=eq_of_beq (u8_all (fun c=>(bs hexS).contains c==hexB c) (by decide +kernel) c)
theorem of_hex (s:ByteArray) (w:World) (hs:s.size<=2097152) :
 Calls Tryz.prog 71 #[.string s,.string ⟨#[48,49,50,51,52,53,54,55,56,57,97,98,99,100,101,102]⟩] w fun e w'=>e=.returned (.bool ((bs s).all hexB))∧Ext w w' :=
 (Of_any s hexS w hs (by decide) (by decide)).mono fun _ _ ⟨h,k⟩=>⟨by rw[h];exact ret_bool (of_set hex_set (bs s)),k⟩
set_option maxHeartbeats 400000 in
theorem outsideF_any (n a b:Int) (w:World) :
 Calls Tryz.prog 183 #[.int .i64 n,.int .i64 a,.int .i64 b] w fun e w'=>e=.returned (.bool (!inI n a b))∧w=w':=by
 go_enter Tryz.func183,Tryz.ntmps183
 go_wp2
 all_goals go_ret
 all_goals refine⟨ret_bool ?_,rfl⟩
 all_goals rw[Bool.eq_iff_iff]
 all_goals simp[inI]
 all_goals omega
theorem hex_num (c:UInt8):hexB c=true↔(48<=c.toNat∧c.toNat<=57)∨(97<=c.toNat∧c.toNat<=102):=by simp[hexB]
set_option maxHeartbeats 4000000 in
theorem isSum_any (s:ByteArray) (w:World) (hs:s.size<=2097152) :
 Calls Tryz.prog 193 #[.string s] w fun e w'=>e=.returned (.bool (sumL (bs s)))∧w=w':=by
 go_enter Tryz.func193,Tryz.ntmps193
 go_wp2
 go_loop [3] (fun i=>∃ k:Nat,k<=s.size∧i=.int .i64 k∧(s.data.toList.take k).all hexB=true) (fun i=>s.size - (intOf i).toNat)
 case atStart=>exact⟨0,Nat.zero_le _,rfl,by simp⟩
 case round =>
  obtain⟨k,hk,rfl,hall⟩:=hrel
  have HALL:=Hy hall
  clear hall
  by_cases hlt:k < s.size
  ·have HFA:=Hy (all_false_of hexB s k hlt)
   have HSU:=Hy (all_take_succ hexB s k hlt)
   have HC:=Hy (hex_num s[k])
   by_cases hh:hexB s[k]=true
   ·have hn:=HC.out.1 hh
    have HH:=Hy hh
    clear hh
    by_cases h1:(48:Int)<=(s[k].toNat:Int)<;>by_cases h2:(s[k].toNat:Int)<=57<;>by_cases h3:(97:Int)<=(s[k].toNat:Int)<;>by_cases h4:(s[k].toNat:Int)<=102<;>first|omega|skip
    all_goals
     clear hn
     go_wp2
     go_round
     case rel=>exact⟨k+1,by omega,by go_num,by rw[HSU.out,HALL.out,HH.out];rfl⟩
     case measure=>simp[intOf];omega
   ·have hn:=fun h=>hh (HC.out.2 h)
    have HH:=Hy (show hexB s[k]=false from by simpa using hh)
    clear hh
    by_cases h1:(48:Int)<=(s[k].toNat:Int)<;>by_cases h2:(s[k].toNat:Int)<=57<;>by_cases h3:(97:Int)<=(s[k].toNat:Int)<;>by_cases h4:(s[k].toNat:Int)<=102<;>first|exact absurd (by omega) hn|skip
    all_goals
     clear hn
     go_wp2
     go_ret
     refine⟨ret_bool ?_,rfl⟩
     unfold sumL
     rw[show (bs s).all hexB=false from HFA.out HH.out]
     rfl
  ·obtain rfl:k=s.size:=by omega
   have HS:=Hy (show sumL (bs s)=((s.size:Int)==16) from by
    rw[take_size] at HALL
    unfold sumL
    rw[show (bs s).all hexB=true from HALL.out,Bool.true_and,bs_length,Bool.eq_iff_iff,decide_eq_true_eq,beq_iff_eq]
    omega)
   go_wp2
   go_ret
   exact⟨ret_bool (by rw[HS.out]),rfl⟩
set_option maxHeartbeats 4000000 in
set_option maxRecDepth 100000 in
theorem compareOffers_any (p o:Of) (A:Option Addr) (c:Nat) (k:Int) (n x:ByteArray) (A2:Option Addr) (m c2:Nat) (A':Option Addr) (c':Nat) (k':Int) (n' x':ByteArray) (A2':Option Addr) (m' c2':Nat) (w:World) (hg:Good w) (hp:SmallO p) (ho:SmallO o) :
 Calls Tryz.prog 108 #[ofV p A c k n x A2 m c2,ofV o A' c' k' n' x' A2' m' c2'] w fun e w'=>e=.returned (.int .i64 (ofCmp p o))∧Ext w w':=by
 have C1:=Hy (fun W=>compare_any p.name o.name W)
 have C2:=Hy (fun W (h:Ext w W)=>Order_any p.vv.a1 p.vv.a2 p.vv.a3 o.vv.a1 o.vv.a2 o.vv.a3 p.vv.a o.vv.a W (hg.ext h) hp.vv ho.vv)
 have HE:=Hy (show ofCmp p o=if Lib.compareBytes (bs p.name) (bs o.name)=0 then orderL p.vv.a1 p.vv.a2 p.vv.a3 (bs p.vv.a) o.vv.a1 o.vv.a2 o.vv.a3 (bs o.vv.a) else Lib.compareBytes (bs p.name) (bs o.name) from rfl)
 clear hp ho hg
 generalize ofCmp p o=E at *
 generalize Lib.compareBytes (bs p.name) (bs o.name)=Z at *
 generalize orderL p.vv.a1 p.vv.a2 p.vv.a3 (bs p.vv.a) o.vv.a1 o.vv.a2 o.vv.a3 (bs o.vv.a)=O at *
 obtain⟨pn,⟨p1,p2,p3,pa⟩,ps,pf,pw,pd,pb,pt,pg,ph,pu,pk⟩:=p
 obtain⟨on,⟨o1,o2,o3,oa⟩,os,of_,ow,od,ob,ot,og,oh,ou,ok⟩:=o
 dsimp only[ofV] at *
 generalize pf.length=pl at *
 generalize of_.length=ol at *
 have b1:=(Blk.new w 66 #[.string pn,.int .i64 p1,.int .i64 p2,.int .i64 p3,.string pa,.string ps,.slice A pl c,.bool pw,.int .i64 k,.string n,.string x,.slice A2 m c2,.int .i64 pb,.int .i64 pt,.int .i64 pg,.bool ph,.bool pu,.bool pk]).alloc (.cells #[.string on,.int .i64 o1,.int .i64 o2,.int .i64 o3,.string oa,.string os,.slice A' ol c',.bool ow,.int .i64 k',.string n',.string x',.slice A2' m' c2',.int .i64 ob,.int .i64 ot,.int .i64 og,.bool oh,.bool ou,.bool ok] 66)
 have b2:=Blk.new (w.alloc (.cells #[.string pn,.int .i64 p1,.int .i64 p2,.int .i64 p3,.string pa,.string ps,.slice A pl c,.bool pw,.int .i64 k,.string n,.string x,.slice A2 m c2,.int .i64 pb,.int .i64 pt,.int .i64 pg,.bool ph,.bool pu,.bool pk] 66)) 66 #[.string on,.int .i64 o1,.int .i64 o2,.int .i64 o3,.string oa,.string os,.slice A' ol c',.bool ow,.int .i64 k',.string n',.string x',.slice A2' m' c2',.int .i64 ob,.int .i64 ot,.int .i64 og,.bool oh,.bool ou,.bool ok]
 rw[World.size_alloc] at b2
 have hx0:Ext w ((w.alloc (.cells #[.string pn,.int .i64 p1,.int .i64 p2,.int .i64 p3,.string pa,.string ps,.slice A pl c,.bool pw,.int .i64 k,.string n,.string x,.slice A2 m c2,.int .i64 pb,.int .i64 pt,.int .i64 pg,.bool ph,.bool pu,.bool pk] 66)).alloc (.cells #[.string on,.int .i64 o1,.int .i64 o2,.int .i64 o3,.string oa,.string os,.slice A' ol c',.bool ow,.int .i64 k',.string n',.string x',.slice A2' m' c2',.int .i64 ob,.int .i64 ot,.int .i64 og,.bool oh,.bool ou,.bool ok] 66)):=((Ext.refl w).alloc _).alloc _
 generalize hW:(w.alloc (.cells #[.string pn,.int .i64 p1,.int .i64 p2,.int .i64 p3,.string pa,.string ps,.slice A pl c,.bool pw,.int .i64 k,.string n,.string x,.slice A2 m c2,.int .i64 pb,.int .i64 pt,.int .i64 pg,.bool ph,.bool pu,.bool pk] 66)).alloc (.cells #[.string on,.int .i64 o1,.int .i64 o2,.int .i64 o3,.string oa,.string os,.slice A' ol c',.bool ow,.int .i64 k',.string n',.string x',.slice A2' m' c2',.int .i64 ob,.int .i64 ot,.int .i64 og,.bool oh,.bool ou,.bool ok] 66)=W0 at *
 have HW:=Hy hW
 clear hW
 have e1:=b1.cell;have e2:=b2.cell
 go_enter Tryz.func108,Tryz.ntmps108
 go_wp2_with fail
 rw[HW.out]
 go_wp2_with fail
 refine (C1.out _).mono ?_
 rintro e w' ⟨rfl,rfl⟩
 by_cases hZ:Z=0
 ·have HF:=Hy (show E=O from by rw[HE.out,if_pos hZ])
  subst hZ
  go_wp2_with fail
  refine (C2.out _ hx0).mono ?_
  rintro e w1 ⟨rfl,hx1⟩
  go_wp2
  go_ret
  exact⟨ret_int HF.out.symm,hx0.trans hx1⟩
 ·have HF:=Hy (show E=Z from by rw[HE.out,if_neg hZ])
  have hne:(Z != 0)=true:=by rw[bne_iff_ne];exact hZ
  clear hZ
  go_wp2
  go_ret
  exact⟨ret_int HF.out.symm,hx0⟩
end
section
open Go.RowKit
section
variable (b:Nat) (ch:ByteArray) (sr tm st fl:Int) (v:Value) (w:World)
theorem enter_any (hb:Blk w b 173 #[.string ch,.int .i64 sr,.int .i64 tm,v,.int .i64 st,.int .i64 fl]) (t lo hi:Int) :
 Calls Tryz.prog 196 #[.pointer (some ⟨b,0,none⟩),.int .i64 t,.int .i64 lo,.int .i64 hi] w fun e w'=>e=.returned (.bool (decide (lo<=st)&&decide (st<=hi)))∧w'=w.setCell ⟨b,4,none⟩ (.int .i64 t):=by
 have hc:=hb.cell;have hf:=hb.free;have hl:=hb.lt
 by_cases h1:lo<=st
 ·by_cases h2:st<=hi
  ·go_enter Tryz.func196,Tryz.ntmps196
   go_wp2
   go_ret
   exact⟨ret_bool (by simp[h1,h2]),rfl⟩
  ·go_enter Tryz.func196,Tryz.ntmps196
   go_wp2
   go_ret
   exact⟨ret_bool (by simp[h2]),rfl⟩
 ·go_enter Tryz.func196,Tryz.ntmps196
  go_wp2
  go_ret
  exact⟨ret_bool (by simp;try (intro h;omega)),rfl⟩
theorem noted_any (hb:Blk w b 173 #[.string ch,.int .i64 sr,.int .i64 tm,v,.int .i64 st,.int .i64 fl]) (e0:Int) :
 Calls Tryz.prog 197 #[.pointer (some ⟨b,0,none⟩),.int .i64 e0] w fun e w'=>e=.returned (.bool true)∧w'=w.setCell ⟨b,5,none⟩ (.int .i64 e0):=by
 have hc:=hb.cell;have hf:=hb.free;have hl:=hb.lt
 go_enter Tryz.func197,Tryz.ntmps197
 go_wp2
 go_ret
 exact⟨rfl,rfl⟩
end
theorem whole_any (st:Int) (w:World) :
 Calls Tryz.prog 123 #[.int .i64 st] w fun e w'=>e=.returned (.bool (decide (st=1∨6<=st)))∧w=w':=by
 go_enter Tryz.func123,Tryz.ntmps123
 go_wp2
 all_goals go_ret
 all_goals refine⟨ret_bool ?_,rfl⟩
 all_goals first|(simp[*];done)|(rw[Bool.eq_iff_iff];simp[*];done)
theorem list3 {l:List ByteArray} (h:l.length=3):∃ a b c,l=[a,b,c]:=by
 match l,h with
 | [a,b,c],_=>exact⟨a,b,c,rfl⟩
def RdL (w:World) (g:Nat) (l:List ByteArray):Prop:=∀ k (h:k < l.length),w.cell? ⟨g,k,none⟩=some (.string l[k])
theorem RdL.of {w:World} {g:Nat} {l:List ByteArray} (h:Blk w g 9 (l.map Value.string).toArray):RdL w g l:=fun k hk=>by
 rw[h.cell k]
 simp[List.getElem?_eq_getElem hk]
theorem RdL.set {w:World} {g:Nat} {l:List ByteArray} (h:RdL w g l) {p:Addr} (hp:g≠p.block) (u:Value):RdL (w.setCell p u) g l:=fun k hk=>cell_set_far hp (h k hk)
theorem RdL.ext {w w':World} {g:Nat} {l:List ByteArray} (h:RdL w g l) (hx:Ext w w'):RdL w' g l:=fun k hk=>hx.cell (h k hk)
set_option maxHeartbeats 8000000 in
theorem head_any (b:Nat) (v:Value) (l:List Of) (ch:ByteArray) (sr tm st fl:Int) (p:List ByteArray) (g c n:Nat) (w0 w:World) (hg:GoodN w0) (hx0:Ext w0 w) (hB:w0.heap.size<=b) (hn:p.length=n) (hp:RdL w g p) (hz:∀ x∈p,x.size<=2097152) (h:RSt w b ch sr tm v l st fl) :
 Calls Tryz.prog 194 #[.pointer (some ⟨b,0,none⟩),.slice (some ⟨g,0,none⟩) n c] w fun e w'=>∃ ok,e=.returned (.bool ok)∧Ext w0 w'∧(ok=true->∃ ch' sr' tm',RSt w' b ch' sr' tm' v l 1 fl):=by
 have CN:=Hy (fun W (hx:Ext w W) k (hk:k < p.length)=>numberF_any p[k] W (hg.ext (hx0.trans hx)) (hz _ (List.getElem_mem hk)))
 have HS:=Hy h
 have HX0:=Hy hx0
 by_cases h3:n=3
 rotate_left
 ·have hne:((n:Int) != 3)=true:=by rw[bne_iff_ne];omega
  clear h h3 hg hp
  go_enter Tryz.func194,Tryz.ntmps194
  go_wp2
  go_ret
  exact⟨false,rfl,HX0.out,fun h=>by cases h⟩
 subst h3
 obtain⟨q0,q1,q2,rfl⟩:=list3 hn
 clear hn
 iterate 1
  have p0:w.cell? ⟨g,0,none⟩=some (.string q0):=hp 0 (by simp)
  have p1:w.cell? ⟨g,1,none⟩=some (.string q1):=hp 1 (by simp)
  have p2:w.cell? ⟨g,2,none⟩=some (.string q2):=hp 2 (by simp)
  have N1:=Hy (fun W hx=>CN.out W hx 1 (by simp))
  have N2:=Hy (fun W hx=>CN.out W hx 2 (by simp))
  dsimp only[List.getElem_cons_succ,List.getElem_cons_zero] at N1 N2
  have HZ0:=Hy (hz q0 (by simp))
  clear CN hp h hz hg hx0
  by_cases h0:q0.size=0
  ·have he:=emp_of_size h0
   go_enter Tryz.func194,Tryz.ntmps194
   go_wp2
   go_ret
   exact⟨false,rfl,HX0.out,fun h=>by cases h⟩
  have he:=nemp_of_size (show 0 < q0.size by omega)
  have he2:q0.toList.isEmpty=false:=by rw[Bool.eq_false_iff];intro h;rw[List.isEmpty_iff] at h;rw[h] at he;simp at he
  go_enter Tryz.func194,Tryz.ntmps194
  go_wp2_with fail
  refine (N1.out _ (Ext.refl _)).mono ?_
  rintro e w1 ⟨n1,b1,rfl,hx1⟩
  have r0:=hx1.cell p0;have r2:=hx1.cell p2
  clear p0 p1 p2
  go_wp2_with fail
  refine (N2.out _ hx1).mono ?_
  rintro e w2 ⟨n2,b2,rfl,hx2⟩
  have s0:=hx2.cell r0
  clear r0 r2
  have h2:=HS.out.ext (hx1.trans hx2)
  have hc:=h2.blk.cell;have hf:=h2.blk.free;have hl:=h2.blk.lt
  have HW:=Hy ((((HX0.out.trans hx1).trans hx2).setCell (p:=⟨b,0,none⟩) hB (.string q0)).setCell (p:=⟨b,1,none⟩) hB (.int .i64 n1))
  have HW2:=Hy (((HW.out).setCell (p:=⟨b,2,none⟩) hB (.int .i64 n2)).setCell (p:=⟨b,4,none⟩) hB (.int .i64 1))
  have HR:=Hy ((((h2.set0 q0 HZ0.out).set1 n1).set2 n2).mark 1)
  clear h2
  cases b1
  ·go_wp2
   go_ret
   exact⟨false,rfl,HW2.out,fun h=>by cases h⟩
  ·go_wp2
   go_ret
   exact⟨b2,rfl,HW2.out,fun _=>⟨_,_,_,HR.out⟩⟩
set_option maxHeartbeats 8000000 in
theorem share_any (b:Nat) (ch:ByteArray) (sr tm:Int) (g0 cap:Nat) (li:List Of) (ys:List Value) (o:Of) (A:Option Addr) (cA:Nat) (k:Int) (nm x:ByteArray) (A2:Option Addr) (m c2:Nat) (st fl:Int) (p:List ByteArray) (g c n:Nat) (w0 w:World) (hg:GoodN w0) (hx0:Ext w0 w) (hB:w0.heap.size<=b) (hn:p.length=n) (hp:RdL w g p) (hz:∀ x∈p,x.size<=2097152) (h:RSl w b ch sr tm g0 cap li ys o A cA k nm x A2 m c2 st fl) :
 Calls Tryz.prog 198 #[.slice (some ⟨g,0,none⟩) n c,.pointer (some ⟨g0,li.length * 18,none⟩)] w fun e w'=>∃ ok,e=.returned (.bool ok)∧Ext w0 w'∧(ok=true->∃ bg s2 gr,RSl w' b ch sr tm g0 cap li ys { o with bg:=bg,st:=s2,gr:=gr } A cA k nm x A2 m c2 st fl):=by
 have CN:=Hy (fun W (hx:Ext w W) k (hk:k < p.length)=>numberF_any p[k] W (hg.ext (hx0.trans hx)) (hz _ (List.getElem_mem hk)))
 have HS:=Hy h
 have HX0:=Hy hx0
 have hgb:=h.base
 by_cases h3:n=3
 rotate_left
 ·have hne:((n:Int) != 3)=true:=by rw[bne_iff_ne];omega
  clear h h3 hg hp
  go_enter Tryz.func198,Tryz.ntmps198
  go_wp2
  go_ret
  exact⟨false,rfl,HX0.out,fun h=>by cases h⟩
 subst h3
 obtain⟨q0,q1,q2,rfl⟩:=list3 hn
 clear hn
 iterate 1
  have p0:w.cell? ⟨g,0,none⟩=some (.string q0):=hp 0 (by simp)
  have p1:w.cell? ⟨g,1,none⟩=some (.string q1):=hp 1 (by simp)
  have p2:w.cell? ⟨g,2,none⟩=some (.string q2):=hp 2 (by simp)
  have N0:=Hy (fun W hx=>CN.out W hx 0 (by simp))
  have N1:=Hy (fun W hx=>CN.out W hx 1 (by simp))
  have N2:=Hy (fun W hx=>CN.out W hx 2 (by simp))
  dsimp only[List.getElem_cons_succ,List.getElem_cons_zero] at N0 N1 N2
  clear CN hp h hz hg hx0
  go_enter Tryz.func198,Tryz.ntmps198
  go_wp2_with fail
  refine (N0.out _ (Ext.refl _)).mono ?_
  rintro e w1 ⟨n0,b0,rfl,hx1⟩
  have r1:=hx1.cell p1;have r2:=hx1.cell p2
  clear p0 p1 p2
  go_wp2_with fail
  refine (N1.out _ hx1).mono ?_
  rintro e w2 ⟨n1,b1,rfl,hx2⟩
  have s2:=hx2.cell r2
  clear r1 r2
  go_wp2_with fail
  refine (N2.out _ (hx1.trans hx2)).mono ?_
  rintro e w3 ⟨n2,b2,rfl,hx3⟩
  clear s2
  have hx13:=(hx1.trans hx2).trans hx3
  have h2:=HS.out.ext hx13
  have c12:=h2.cellAt 12 (by decide);have c13:=h2.cellAt 13 (by decide);have c14:=h2.cellAt 14 (by decide)
  dsimp only[List.getElem?_cons_succ,List.getElem?_cons_zero] at c12 c13 c14
  have hf:=h2.free;have hl:=h2.base.2
  have hB0:w0.heap.size<=g0:=by omega
  have HW:=Hy ((((HX0.out.trans hx13).setCell (p:=⟨g0,li.length * 18+12,none⟩) hB0 (.int .i64 n0)).setCell (p:=⟨g0,li.length * 18+13,none⟩) hB0 (.int .i64 n1)).setCell (p:=⟨g0,li.length * 18+14,none⟩) hB0 (.int .i64 n2))
  have H1:=h2.put 12 (.int .i64 n0) (o':={ o with bg:=n0 }) rfl h2.has ⟨h2.small.2.name,h2.small.2.vv,h2.small.2.sum,h2.small.2.fr,h2.small.2.len,h2.small.2.wh,h2.small.2.cnt⟩
  have H2:=H1.put 13 (.int .i64 n1) (o':={ o with bg:=n0,st:=n1 }) rfl H1.has ⟨h2.small.2.name,h2.small.2.vv,h2.small.2.sum,h2.small.2.fr,h2.small.2.len,h2.small.2.wh,h2.small.2.cnt⟩
  have H3:=H2.put 14 (.int .i64 n2) (o':={ o with bg:=n0,st:=n1,gr:=n2 }) rfl H2.has ⟨h2.small.2.name,h2.small.2.vv,h2.small.2.sum,h2.small.2.fr,h2.small.2.len,h2.small.2.wh,h2.small.2.cnt⟩
  have HR:=Hy H3
  clear H1 H2 H3
  clear h2
  generalize li.length=lm at *
  cases b0
  ·go_wp2
   go_ret
   exact⟨false,rfl,HW.out,fun h=>by cases h⟩
  cases b1
  ·go_wp2
   go_ret
   exact⟨false,rfl,HW.out,fun h=>by cases h⟩
  ·go_wp2
   go_ret
   exact⟨b2,rfl,HW.out,fun _=>⟨_,_,_,HR.out⟩⟩
end
end Go.Proofs.YtmnafaaijglnfaaGreatDoor
