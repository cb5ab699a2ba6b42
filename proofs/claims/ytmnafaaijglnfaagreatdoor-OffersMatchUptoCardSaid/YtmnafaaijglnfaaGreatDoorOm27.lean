/- Contracts of ver.CheckCond and outref2.CondError. Contracts of ver.CheckCond and outref2.CondError, the whole. Contracts of ver.Holds at the condition that always holds, and of migrate.settingsFault. Offers one behind the other in a row of the call's own, and the reader of feeds in memory. Contracts of feed.isSum, feed.outside, of outref2.Of over hexadecimal digits, and of feed.compareOffers. (Printed by gen/feeds.py.) Contracts of feed.offerFault and outref2.OfferError. (Printed by gen/feeds.py.) Contracts of feed.shareAt, outref2.ShareOf, feed.timed, feed.Share, and of times. Contracts of feed.Place, feed.timed, feed.Share, outref2.TimeError. Offers and texts among the arguments. (Printed by gen/openf.py.) Laws for rows of structs: copy within and between rows, append of noughts. slices.Insert over offers: one offer laid into an owned row. Merged feeds, in plain words: the search, as it is made. Contract of feed.cloneCond. (PlZ, turned.) slices.Clone over spans, feed.clone. Lists of feeds: their errors and their merge in plain words, what memory holds of them, and the merged feed while it is made. Feeds among the arguments. (Printed by gen/openfd.py.) Machines as feeds see them, in plain words: their errors, whether an offer fits, which offer is had, and which one after the other. What is installed and what is pinned, in memory; the first of them that a closure takes; the closures that compare names. (Printed by gen/omm.py.) -/
import Derived.Test.YtmnafaaijglnfaaGreatDoorOm26
import Derived.Test.YtmnafaaijglnfaaGreatDoorOm25
import Derived.Test.YtmnafaaijglnfaaGreatDoorOm17
import Derived.Test.YtmnafaaijglnfaaGreatDoorOm20
import Derived.Laws.EntriesVeiled
import Derived.Laws.CopyOwn
import Derived.Lib.Overlaps
import Derived.Shelf.RegionOpenPlain
import Derived.Lib.JoinLaws
import Derived.Lib.AppendZeros
namespace Go.Proofs.YtmnafaaijglnfaaGreatDoor
section
open Go.RowKit
def step1 (_:Cd) (lev:Nat) (s:Int × Bool):(Int × Bool) × Bool:=((IntKind.i64.wrap (s.1+1),s.2||decide (20 < lev)),decide (IntKind.i64.wrap (s.1+1)<=100))
def step2 (c:Cd) (_:Nat) (_:Int):Int × Bool:=(partC c,partC c==0)
def step3 (_:Cd) (lev:Nat) (s:Int × Int):(Int × Int) × Bool:=((IntKind.i64.wrap (s.1+1),max s.2 (lev:Int)),true)
def step4 (c:Cd) (_:Nat) (e:Int):Int × Bool:=(if e=0 then partC c else e,true)
theorem wrap_small {p:Int} (h0:0<=p) (h1:p<=1000000000):IntKind.i64.wrap (p+1)=p+1:=by rw[IntKind.wrap_i64];omega
theorem run1_small:∀ (l:List (Cd × Nat)) (p:Int) (d:Bool),0<=p->p+l.length<=100->runP step1 l (p,d)=((p+l.length,d||l.any fun q=>decide (20 < q.2)),true)
 | [],p,d,_,_=>by simp[runP]
 | q::r,p,d,h0,h1=>by
   simp only[List.length_cons] at h1
   have hw:=wrap_small h0 (by omega)
   unfold runP
   simp only[step1,hw]
   rw[if_pos (by rw[decide_eq_true_eq];omega),run1_small r (p+1) _ (by omega) (by omega)]
   simp only[List.length_cons,List.any_cons,Bool.or_assoc,Prod.mk.injEq,and_true]
   omega
theorem run1_large:∀ (l:List (Cd × Nat)) (p:Int) (d:Bool),0<=p->p<=100->100 < p+l.length->(runP step1 l (p,d)).1.1=101
 | [],p,d,_,h1,h2=>by simp at h2;omega
 | q::r,p,d,h0,h1,h2=>by
   simp only[List.length_cons] at h2
   have hw:=wrap_small h0 (by omega)
   unfold runP
   simp only[step1,hw]
   by_cases h:p+1<=100
   ·rw[if_pos (by rw[decide_eq_true_eq];exact h)]
    exact run1_large r (p+1) _ (by omega) h (by omega)
   ·rw[if_neg (by rw[decide_eq_true_eq];exact h)]
    show p+1=101
    omega
theorem run2_first:∀ (l:List (Cd × Nat)),(runP step2 l 0).1=firstErr l
 | []=>rfl
 | q::r=>by
   have h:∀ z,(runP step2 r z).1=if r=[] then z else firstErr r:=fun z=>by
    cases r with
    | nil=>rfl
    | cons a b=>rw[if_neg (by simp),<-run2_first (a::b)];rfl
   unfold runP firstErr
   simp only[step2,beq_iff_eq]
   by_cases hz:partC q.1=0
   ·rw[if_pos hz,if_pos hz,hz,run2_first r]
   ·rw[if_neg hz,if_neg hz]
theorem run3_all:∀ (l:List (Cd × Nat)) (m d:Int),0<=m->m+l.length<=1000000000->(runP step3 l (m,d)).1.1=m+l.length∧((20 < (runP step3 l (m,d)).1.2)↔(20 < d∨(l.any fun q=>decide (20 < q.2))=true))
 | [],m,d,_,_=>by simp[runP]
 | q::r,m,d,h0,h1=>by
   simp only[List.length_cons] at h1
   have hw:=wrap_small h0 (by omega)
   unfold runP
   simp only[step3,hw,if_true]
   obtain⟨a,b⟩:=run3_all r (m+1) (max d (q.2:Int)) (by omega) (by omega)
   refine⟨by rw[a,List.length_cons];omega,?_⟩
   rw[b,List.any_cons,Bool.or_eq_true,decide_eq_true_eq]
   constructor
   ·rintro (h|h)
    ·by_cases h2:20 < q.2
     ·exact .inr (.inl h2)
     ·exact .inl (by omega)
    ·exact .inr (.inr h)
   ·rintro (h|h|h)
    ·exact .inl (by omega)
    ·exact .inl (by omega)
    ·exact .inr h
theorem run4_first:∀ (l:List (Cd × Nat)) (e:Int),(runP step4 l e).1=if e=0 then firstErr l else e
 | [],e=>by
   unfold runP firstErr
   split
   ·assumption
   ·rfl
 | q::r,e=>by
   unfold runP
   simp only[step4,if_true]
   rw[run4_first r]
   by_cases he:e=0
   ·rw[if_pos he,if_pos he]
    rfl
   ·rw[if_neg he,if_neg he,if_neg he]
theorem visit1_any (g1 g2:Nat) (hne:g1≠g2) (c:Cd) (v:Value) (lev:Nat) (s:Int × Bool) (w:World) (P:Nat->Prop) (hlev:lev<=1000000000) (hc:CdIn P w c v) (h1:Blk w g1 3 #[.int .i64 s.1]) (h2:Blk w g2 4 #[.bool s.2]) :
 Calls Tryz.prog 172 #[v,.int .i64 lev,.pointer (some ⟨g1,0,none⟩),.pointer (some ⟨g2,0,none⟩)] w fun e w'=>e=.returned (.bool (step1 c lev s).2)∧(Blk w' g1 3 #[.int .i64 (step1 c lev s).1.1]∧Blk w' g2 4 #[.bool (step1 c lev s).1.2])∧ExtC (fun k=>k=g1∨k=g2) w w':=by
 obtain⟨k,n,x,A,m,cp,rfl⟩:=hc.cells
 obtain⟨p,d⟩:=s
 have c1:=h1.cell;have f1:=h1.free;have l1:=h1.lt
 have c2:=h2.cell;have f2:=h2.free;have l2:=h2.lt
 have H1:=Hy h1;have H2:=Hy h2
 unfold step1
 dsimp only at *
 clear hc h1 h2
 have hd2:decide ((20:Int) < (lev:Int))=decide (20 < lev):=by
  by_cases h:20 < lev
  ·rw[decide_eq_true h,decide_eq_true (by omega)]
  ·rw[decide_eq_false h,decide_eq_false (by omega)]
 rw[<-hd2]
 generalize hq:IntKind.i64.wrap (p+1)=q
 clear hd2
 have hfin:=fun (b:Bool) (o:Obj)=>(⟨⟨((H1.out.set 0 (.int .i64 q)).far (p:=⟨g2,0,none⟩) hne (.bool b)).alloc o,((H2.out.far (p:=⟨g1,0,none⟩) (Ne.symm hne) (.int .i64 q)).set 0 (.bool b)).alloc o⟩,(((ExtC.refl (fun k=>k=g1∨k=g2) w).set (p:=⟨g1,0,none⟩) (.inl (.inl rfl)) (.int .i64 q)).set (p:=⟨g2,0,none⟩) (.inl (.inr rfl)) (.bool b)).alloc o⟩:(_∧_)∧_)
 have HF:=Hy hfin
 clear hfin
 cases d
 ·go_enter Tryz.func172,Tryz.ntmps172
  go_wp2
  go_ret
  exact⟨rfl,HF.out _ _⟩
 ·go_enter Tryz.func172,Tryz.ntmps172
  go_wp2
  go_ret
  exact⟨rfl,HF.out _ _⟩
theorem visit2_any (g3:Nat) (c:Cd) (v:Value) (lev:Nat) (s:Int) (w:World) (P:Nat->Prop) (hg:GoodN w) (hsm:SmallC c) (hc:CdIn P w c v) (h3:Blk w g3 24 #[.int .i64 s]) :
 Calls Tryz.prog 173 #[v,.int .i64 lev,.pointer (some ⟨g3,0,none⟩)] w fun e w'=>e=.returned (.bool (step2 c lev s).2)∧Blk w' g3 24 #[.int .i64 (step2 c lev s).1]∧ExtC (fun k=>k=g3) w w':=by
 cases hc with
 | mk k n x l A cp b o u0 u1 u2 u3 hA hb h0 h1 h2 h3' hr =>
   obtain⟨_,_,_,_,hsn,hsx,hsl,hsr⟩:=hsm
   have hb3:=h3.alloc (.cells #[.int .i64 k,.string n,.string x,.slice A l.length cp] 52)
   have hx0:Ext w (w.alloc (.cells #[.int .i64 k,.string n,.string x,.slice A l.length cp] 52)):=(Ext.refl w).alloc _
   have hp:=partFault_any k n x A l.length cp _ (hg.ext hx0) hsn hsx hsl
   unfold step2 partC
   dsimp only[Cd.kind,Cd.name,Cd.value,Cd.args]
   generalize partErr k (bs n) (bs x) l.length=E at *
   have HP:=Hy hp
   clear hp h0 h1 h2 h3' hr hA hb h3
   go_enter Tryz.func173,Tryz.ntmps173
   go_wp2_with fail
   refine HP.out.mono ?_
   rintro e w1 ⟨rfl,hx1⟩
   have b1:=hb3.ext hx1
   have c1:=b1.cell;have f1:=b1.free;have l1:=b1.lt
   have hfin:Blk (w1.setCell ⟨g3,0,none⟩ (.int .i64 E)) g3 24 #[.int .i64 E]:=b1.set 0 _
   have HF:=Hy hfin
   clear hfin hb3
   go_wp2
   go_ret
   exact⟨rfl,HF.out,(ExtC.ofExt (C:=fun k=>k=g3) (hx0.trans hx1)).set (p:=⟨g3,0,none⟩) (.inl rfl) _⟩
theorem visit3_any (g1 g2:Nat) (hne:g1≠g2) (c:Cd) (v:Value) (lev:Nat) (s:Int × Int) (w:World) (P:Nat->Prop) (hc:CdIn P w c v) (h1:Blk w g1 3 #[.int .i64 s.1]) (h2:Blk w g2 3 #[.int .i64 s.2]) :
 Calls Tryz.prog 180 #[v,.int .i64 lev,.pointer (some ⟨g1,0,none⟩),.pointer (some ⟨g2,0,none⟩)] w fun e w'=>e=.returned (.tuple #[])∧(Blk w' g1 3 #[.int .i64 (step3 c lev s).1.1]∧Blk w' g2 3 #[.int .i64 (step3 c lev s).1.2])∧ExtC (fun k=>k=g1∨k=g2) w w':=by
 obtain⟨k,n,x,A,m,cp,rfl⟩:=hc.cells
 obtain⟨p,d⟩:=s
 have c1:=h1.cell;have f1:=h1.free;have l1:=h1.lt
 have c2:=h2.cell;have f2:=h2.free;have l2:=h2.lt
 have H1:=Hy h1;have H2:=Hy h2
 unfold step3
 dsimp only at *
 clear hc h1 h2
 generalize hq:IntKind.i64.wrap (p+1)=q
 have hfin:=fun (b:Int) (o:Obj)=>(⟨⟨((H1.out.set 0 (.int .i64 q)).far (p:=⟨g2,0,none⟩) hne (.int .i64 b)).alloc o,((H2.out.far (p:=⟨g1,0,none⟩) (Ne.symm hne) (.int .i64 q)).set 0 (.int .i64 b)).alloc o⟩,(((ExtC.refl (fun k=>k=g1∨k=g2) w).set (p:=⟨g1,0,none⟩) (.inl (.inl rfl)) (.int .i64 q)).set (p:=⟨g2,0,none⟩) (.inl (.inr rfl)) (.int .i64 b)).alloc o⟩:(_∧_)∧_)
 have HF:=Hy hfin
 clear hfin
 go_enter Tryz.func180,Tryz.ntmps180
 go_wp2
 refine bodyPost_end (results_none rfl _ _ _) rfl ?_
 exact⟨rfl,HF.out _ _⟩
theorem visit4_any (g3:Nat) (c:Cd) (v:Value) (lev:Nat) (s:Int) (w:World) (P:Nat->Prop) (hg:GoodN w) (hsm:SmallC c) (hc:CdIn P w c v) (h3:Blk w g3 24 #[.int .i64 s]) :
 Calls Tryz.prog 181 #[v,.int .i64 lev,.pointer (some ⟨g3,0,none⟩)] w fun e w'=>e=.returned (.tuple #[])∧Blk w' g3 24 #[.int .i64 (step4 c lev s).1]∧ExtC (fun k=>k=g3) w w':=by
 cases hc with
 | mk k n x l A cp b o u0 u1 u2 u3 hA hb h0 h1 h2 h3' hr =>
   obtain⟨_,_,_,_,hsn,hsx,hsl,hsr⟩:=hsm
   have hb3:=h3.alloc (.cells #[.int .i64 k,.string n,.string x,.slice A l.length cp] 52)
   have hx0:Ext w (w.alloc (.cells #[.int .i64 k,.string n,.string x,.slice A l.length cp] 52)):=(Ext.refl w).alloc _
   have hp:=partError_any k n x A l.length cp _ (hg.ext hx0) hsn hsx hsl
   unfold step4 partC
   dsimp only[Cd.kind,Cd.name,Cd.value,Cd.args]
   generalize partErr k (bs n) (bs x) l.length=E at *
   have HP:=Hy hp
   have HG:=Hy h3
   have c3:=hb3.cell;have c3w:=h3.cell;have l3:=h3.lt
   clear hp h0 h1 h2 h3' hr hA hb h3
   by_cases hs:s=0
   ·rw[if_pos hs]
    have es:(s==0)=true:=beq_iff_eq.2 hs
    clear hs
    go_enter Tryz.func181,Tryz.ntmps181
    go_wp2_with fail
    refine HP.out.mono ?_
    rintro e w1 ⟨rfl,hx1⟩
    have b1:=hb3.ext hx1
    have c1:=b1.cell;have f1:=b1.free;have l1:=b1.lt
    have hfin:Blk (w1.setCell ⟨g3,0,none⟩ (.int .i64 E)) g3 24 #[.int .i64 E]:=b1.set 0 _
    have HF:=Hy hfin
    clear hfin hb3
    go_wp2
    refine bodyPost_end (results_none rfl _ _ _) rfl ?_
    exact⟨rfl,HF.out,(ExtC.ofExt (C:=fun k=>k=g3) (hx0.trans hx1)).set (p:=⟨g3,0,none⟩) (.inl rfl) _⟩
   ·rw[if_neg hs]
    have es:(s==0)=false:=beq_eq_false_iff_ne.2 hs
    have HB3:=Hy hb3
    clear hs hb3
    go_enter Tryz.func181,Tryz.ntmps181
    go_wp2
    refine bodyPost_end (results_none rfl _ _ _) rfl ?_
    exact⟨rfl,HB3.out,ExtC.ofExt hx0⟩
end
section
open Go.RowKit
set_option maxRecDepth 100000 in
set_option maxHeartbeats 8000000 in
theorem CheckCond_any (c:Cd) (v:Value) (P:Nat->Prop) (w:World) (hg:GoodN w) (hc:CdIn P w c v) (hsm:SmallC c) (hcnt:cnt c<=100000000) :
 Calls Tryz.prog 101 #[v] w fun e w'=>e=.returned (.int .i64 (checkC c))∧Ext w w':=by
 have hcd:CdIn (fun k=>k < w.heap.size) w c v:=hc.imp fun b hb _=>hb
 obtain⟨k,n,x,A,m,cp,rfl⟩:=hc.cells
 clear hc
 have hxb:Ext w (((w.alloc (.cells #[.int .i64 k,.string n,.string x,.slice A m cp] 52)).alloc (.cells #[.int .i64 0] 3)).alloc (.cells #[.bool false] 4)):=(((Ext.refl w).alloc _).alloc _).alloc _
 have bx:=((Blk.new w 52 #[.int .i64 k,.string n,.string x,.slice A m cp]).alloc (.cells #[.int .i64 0] 3)).alloc (.cells #[.bool false] 4)
 have b1:=(Blk.new (w.alloc (.cells #[.int .i64 k,.string n,.string x,.slice A m cp] 52)) 3 #[.int .i64 0]).alloc (.cells #[.bool false] 4)
 have b2:=Blk.new ((w.alloc (.cells #[.int .i64 k,.string n,.string x,.slice A m cp] 52)).alloc (.cells #[.int .i64 0] 3)) 4 #[.bool false]
 rw[World.size_alloc] at b1
 rw[World.size_alloc,World.size_alloc] at b2
 have hB0:w.heap.size+1+1+1<=(((w.alloc (.cells #[.int .i64 k,.string n,.string x,.slice A m cp] 52)).alloc (.cells #[.int .i64 0] 3)).alloc (.cells #[.bool false] 4)).heap.size:=by rw[World.size_alloc,World.size_alloc,World.size_alloc];exact Nat.le_refl _
 have hw1:=walk_any 172 #[.pointer (some ⟨w.heap.size+1,0,none⟩),.pointer (some ⟨w.heap.size+1+1,0,none⟩)] (fun xs w=>by kernel_rfl) (fun k=>k < w.heap.size) (fun k=>k=w.heap.size+1∨k=w.heap.size+1+1) (w.heap.size+1+1+1)
  (fun (st:Int × Bool) W=>(Blk W (w.heap.size+1) 3 #[.int .i64 st.1]∧Blk W (w.heap.size+1+1) 4 #[.bool st.2])∧w.heap.size+1+1+1<=W.heap.size) step1
  (fun st W W' h hx=>⟨⟨h.1.1.ext hx,h.1.2.ext hx⟩,Nat.le_trans h.2 hx.size⟩) (fun k hk=>by omega) (fun st W h=>h.2) (fun k hk h=>by omega)
  (fun c v lev st W hl hs hcv h=>(visit1_any (w.heap.size+1) (w.heap.size+1+1) (by omega) c v lev st W _ hl hcv h.1.1 h.1.2).mono fun e W' ⟨a,b,d⟩=>⟨a,⟨b,Nat.le_trans h.2 d.size⟩,d⟩)
  (cnt c) c (Nat.le_refl _) 0 _ (0,false) _ (by omega) hsm (hcd.ext hxb) ⟨⟨b1,b2⟩,hB0⟩
 rw[show ((0:Nat):Int)=0 from rfl] at hw1
 have hsx:=hxb.size
 have HW1:=Hy hw1
 have hch:checkC c=if 100 < cnt c then 4 else if firstErr (prt 0 c)≠0 then firstErr (prt 0 c) else if (prt 0 c).any (fun p=>decide (20 < p.2))=true then 4 else 0:=rfl
 rw[hch]
 have hlen:=prt_len 0 c
 clear hw1 hch
 by_cases hbig:100 < cnt c
 ·have hl:=run1_large (prt 0 c) 0 false (by omega) (by omega) (by omega)
  rw[if_pos hbig]
  generalize (runP step1 (prt 0 c) (0,false)).1=S at *
  obtain⟨s1,s2⟩:=S
  have hl:s1=101:=hl
  subst hl
  go_enter Tryz.func101,Tryz.ntmps101
  go_wp2_with fail
  refine HW1.out.mono ?_
  rintro e W1 ⟨rfl,⟨⟨hb1,hb2⟩,hB1⟩,hx1⟩
  have c1:=hb1.cell
  have hxf:Ext w W1:=ExtC.ext hxb hx1 (fun i hi=>by omega)
  clear bx b1 b2 hb1 hb2 hx1
  go_wp2
  go_ret
  exact⟨rfl,hxf⟩
 have hsmall:=run1_small (prt 0 c) 0 false (by omega) (by omega)
 rw[if_neg hbig]
 have hs1:(runP step1 (prt 0 c) (0,false)).1=(((cnt c:Nat):Int),(prt 0 c).any fun q=>decide (20 < q.2)):=by rw[hsmall,hlen];simp
 rw[hs1] at HW1
 have hnc:¬ (100:Int) < (cnt c:Int):=by omega
 generalize (prt 0 c).any (fun q=>decide (20 < q.2))=dp at *
 clear hsmall hs1
 obtain⟨R,hR⟩:∃ R:Int,R=(if firstErr (prt 0 c)≠0 then firstErr (prt 0 c) else if dp=true then 4 else 0):=⟨_,rfl⟩
 rw[<-hR]
 have HR:=Hy hR
 clear hR
 go_enter Tryz.func101,Tryz.ntmps101
 go_wp2_with fail
 refine HW1.out.mono ?_
 rintro e W1 ⟨rfl,⟨⟨hb1,hb2⟩,hB1⟩,hx1⟩
 have c1:=hb1.cell;have c2:=hb2.cell
 have bx1:=bx.extC hx1 (by omega)
 have cx:=bx1.cell
 have hxf:Ext w W1:=ExtC.ext hxb hx1 (fun i hi=>by omega)
 have hz1:=hxf.size
 have b3:=Blk.new W1 24 #[.int .i64 0]
 have hx3:Ext W1 (W1.alloc (.cells #[.int .i64 0] 24)):=(Ext.refl W1).alloc _
 have hw2:=walk_any 173 #[.pointer (some ⟨W1.heap.size,0,none⟩)] (fun xs w=>by kernel_rfl) (fun k=>k < w.heap.size) (fun k=>k=W1.heap.size) (W1.heap.size+1)
  (fun (st:Int) W=>Ext w W∧Blk W W1.heap.size 24 #[.int .i64 st]∧W1.heap.size+1<=W.heap.size) step2
  (fun st W W' h hx=>⟨h.1.trans hx,h.2.1.ext hx,Nat.le_trans h.2.2 hx.size⟩) (fun k hk=>by omega) (fun st W h=>h.2.2) (fun k hk h=>by omega)
  (fun c v lev st W hl hs hcv h=>(visit2_any W1.heap.size c v lev st W _ (hg.ext h.1) hs hcv h.2.1).mono fun e W' ⟨a,b,d⟩=>⟨a,⟨ExtC.ext h.1 d (fun i hi=>by omega),b,Nat.le_trans h.2.2 d.size⟩,d⟩)
  (cnt c) c (Nat.le_refl _) 0 _ 0 _ (by omega) hsm ((hcd.ext hxf).ext hx3) ⟨hxf.trans hx3,b3,by rw[World.size_alloc];exact Nat.le_refl _⟩
 rw[show ((0:Nat):Int)=0 from rfl] at hw2
 have hfe:(runP step2 (prt 0 c) 0).1=firstErr (prt 0 c):=run2_first _
 rw[hfe] at hw2
 generalize firstErr (prt 0 c)=E at *
 have HW2:=Hy hw2
 have HB1:=Hy hb1;have HB2:=Hy hb2
 have hl1:=hb1.lt;have hl2:=hb2.lt;have hlx:=bx1.lt
 clear hw2 hfe b1 b2 bx b3 hb1 hx1 hxf hx3 hlen hcd hsm
 go_wp2_with fail
 refine HW2.out.mono ?_
 rintro e W2 ⟨rfl,⟨hxf2,hb3,hB2⟩,hx2⟩
 have hb22:=(hb2.alloc (.cells #[.int .i64 0] 24)).extC hx2 (by omega)
 have d2:=hb22.cell;have d3:=hb3.cell
 have hR:=HR.out
 by_cases hE:E=0
 ·have eE:(E==0)=true:=beq_iff_eq.2 hE
  rw[if_neg (fun h=>h hE)] at hR
  have HE:=Hy hE
  clear hE
  cases dp
  ·rw[if_neg (by decide)] at hR
   have HRz:=Hy hR
   clear hR HR
   go_wp2
   go_ret
   exact⟨ret_int (by rw[HRz.out];exact HE.out),hxf2⟩
  ·rw[if_pos rfl] at hR
   have HRz:=Hy hR
   clear hR HR
   go_wp2
   go_ret
   exact⟨ret_int HRz.out.symm,hxf2⟩
 ·have eE:(E==0)=false:=beq_eq_false_iff_ne.2 hE
  rw[if_pos hE] at hR
  have HRz:=Hy hR
  clear hE hR HR
  go_wp2
  go_ret
  exact⟨ret_int HRz.out.symm,hxf2⟩
set_option maxRecDepth 100000 in
set_option maxHeartbeats 8000000 in
theorem CondError_any (c:Cd) (v:Value) (P:Nat->Prop) (w:World) (hg:GoodN w) (hc:CdIn P w c v) (hsm:SmallC c) (hcnt:cnt c<=100000000) :
 Calls Tryz.prog 105 #[v] w fun e w'=>e=.returned (.int .i64 (checkC c))∧Ext w w':=by
 have hcd:CdIn (fun k=>k < w.heap.size) w c v:=hc.imp fun b hb _=>hb
 obtain⟨k,n,x,A,m,cp,rfl⟩:=hc.cells
 clear hc
 have hxb:Ext w (((w.alloc (.cells #[.int .i64 k,.string n,.string x,.slice A m cp] 52)).alloc (.cells #[.int .i64 0] 3)).alloc (.cells #[.int .i64 0] 3)):=(((Ext.refl w).alloc _).alloc _).alloc _
 have bx:=((Blk.new w 52 #[.int .i64 k,.string n,.string x,.slice A m cp]).alloc (.cells #[.int .i64 0] 3)).alloc (.cells #[.int .i64 0] 3)
 have b1:=(Blk.new (w.alloc (.cells #[.int .i64 k,.string n,.string x,.slice A m cp] 52)) 3 #[.int .i64 0]).alloc (.cells #[.int .i64 0] 3)
 have b2:=Blk.new ((w.alloc (.cells #[.int .i64 k,.string n,.string x,.slice A m cp] 52)).alloc (.cells #[.int .i64 0] 3)) 3 #[.int .i64 0]
 rw[World.size_alloc] at b1
 rw[World.size_alloc,World.size_alloc] at b2
 have hB0:w.heap.size+1+1+1<=(((w.alloc (.cells #[.int .i64 k,.string n,.string x,.slice A m cp] 52)).alloc (.cells #[.int .i64 0] 3)).alloc (.cells #[.int .i64 0] 3)).heap.size:=by rw[World.size_alloc,World.size_alloc,World.size_alloc];exact Nat.le_refl _
 have hw1:=CondParts_any 180 #[.pointer (some ⟨w.heap.size+1,0,none⟩),.pointer (some ⟨w.heap.size+1+1,0,none⟩)] (fun xs w=>by kernel_rfl) (fun k=>k < w.heap.size) (fun k=>k=w.heap.size+1∨k=w.heap.size+1+1) (w.heap.size+1+1+1)
  (fun (st:Int × Int) W=>(Blk W (w.heap.size+1) 3 #[.int .i64 st.1]∧Blk W (w.heap.size+1+1) 3 #[.int .i64 st.2])∧w.heap.size+1+1+1<=W.heap.size) step3
  (fun st W W' h hx=>⟨⟨h.1.1.ext hx,h.1.2.ext hx⟩,Nat.le_trans h.2 hx.size⟩) (fun k hk=>by omega) (fun st W h=>h.2) (fun k hk h=>by omega) (fun _ _ _=>rfl)
  (fun c v lev st W hl hs hcv h=>(visit3_any (w.heap.size+1) (w.heap.size+1+1) (by omega) c v lev st W _ hcv h.1.1 h.1.2).mono fun e W' ⟨a,b,d⟩=>⟨a,⟨b,Nat.le_trans h.2 d.size⟩,d⟩)
  (cnt c) c (Nat.le_refl _) 0 _ (0,0) _ (by omega) hsm (hcd.ext hxb) ⟨⟨b1,b2⟩,hB0⟩
 rw[show ((0:Nat):Int)=0 from rfl] at hw1
 have hsx:=hxb.size
 have HW1:=Hy hw1
 have hch:checkC c=if 100 < cnt c then 4 else if firstErr (prt 0 c)≠0 then firstErr (prt 0 c) else if (prt 0 c).any (fun p=>decide (20 < p.2))=true then 4 else 0:=rfl
 rw[hch]
 have hlen:=prt_len 0 c
 clear hw1 hch
 have hrun:=run3_all (prt 0 c) 0 0 (by omega) (by omega)
 generalize (runP step3 (prt 0 c) (0,0)).1=S at *
 obtain⟨s1,s2⟩:=S
 obtain⟨hr1,hr2⟩:=hrun
 dsimp only at hr1 hr2
 rw[hlen] at hr1
 by_cases hbig:100 < cnt c
 ·rw[if_pos hbig]
  have hs1:(100:Int) < s1:=by omega
  clear hr1 hr2
  go_enter Tryz.func105,Tryz.ntmps105
  go_wp2_with fail
  refine HW1.out.mono ?_
  rintro e W1 ⟨rfl,⟨⟨hb1,hb2⟩,hB1⟩,hx1⟩
  have c1:=hb1.cell
  have hxf:Ext w W1:=ExtC.ext hxb hx1 (fun i hi=>by omega)
  clear bx b1 b2 hb1 hb2 hx1
  go_wp2
  go_ret
  exact⟨rfl,hxf⟩
 rw[if_neg hbig]
 have hs1:¬ (100:Int) < s1:=by omega
 have hr3:(20 < s2)↔((prt 0 c).any fun q=>decide (20 < q.2))=true:=by rw[hr2];exact⟨fun h=>h.elim (fun x=>absurd x (by decide)) id,.inr⟩
 generalize (prt 0 c).any (fun q=>decide (20 < q.2))=dp at *
 obtain⟨Wn,hWn⟩:∃ Wn:Int,(if decide ((20:Int) < s2)=true then (4:Int) else 0)=Wn:=⟨_,rfl⟩
 have hwh:=fun W=>When_any (decide ((20:Int) < s2)) 4 W
 have hfs:(if firstErr (prt 0 c)≠0 then firstErr (prt 0 c) else if dp=true then 4 else 0)=firstI [firstErr (prt 0 c),Wn]:=by
  generalize firstErr (prt 0 c)=E
  rw[<-hWn]
  by_cases hE:E=0
  ·subst hE
   rw[if_neg (by decide)]
   by_cases h20:(20:Int) < s2
   ·rw[decide_eq_true h20,hr3.1 h20];rfl
   ·rw[decide_eq_false h20,(Bool.not_eq_true _).mp (fun h=>h20 (hr3.2 h))];rfl
  ·rw[if_pos hE]
   simp[firstI,hE]
 rw[hfs]
 simp only[hWn] at hwh
 have HWH:=Hy hwh
 clear hwh hfs hWn hr1 hr2 hr3
 go_enter Tryz.func105,Tryz.ntmps105
 go_wp2_with fail
 refine HW1.out.mono ?_
 rintro e W1 ⟨rfl,⟨⟨hb1,hb2⟩,hB1⟩,hx1⟩
 have c1:=hb1.cell;have c2:=hb2.cell
 have bx1:=bx.extC hx1 (by omega)
 have cx:=bx1.cell
 have hxf:Ext w W1:=ExtC.ext hxb hx1 (fun i hi=>by omega)
 have hz1:=hxf.size
 have b3:=Blk.new W1 24 #[.int .i64 0]
 have hx3:Ext W1 (W1.alloc (.cells #[.int .i64 0] 24)):=(Ext.refl W1).alloc _
 have hw2:=CondParts_any 181 #[.pointer (some ⟨W1.heap.size,0,none⟩)] (fun xs w=>by kernel_rfl) (fun k=>k < w.heap.size) (fun k=>k=W1.heap.size) (W1.heap.size+1)
  (fun (st:Int) W=>Ext w W∧Blk W W1.heap.size 24 #[.int .i64 st]∧W1.heap.size+1<=W.heap.size) step4
  (fun st W W' h hx=>⟨h.1.trans hx,h.2.1.ext hx,Nat.le_trans h.2.2 hx.size⟩) (fun k hk=>by omega) (fun st W h=>h.2.2) (fun k hk h=>by omega) (fun _ _ _=>rfl)
  (fun c v lev st W hl hs hcv h=>(visit4_any W1.heap.size c v lev st W _ (hg.ext h.1) hs hcv h.2.1).mono fun e W' ⟨a,b,d⟩=>⟨a,⟨ExtC.ext h.1 d (fun i hi=>by omega),b,Nat.le_trans h.2.2 d.size⟩,d⟩)
  (cnt c) c (Nat.le_refl _) 0 _ 0 _ (by omega) hsm ((hcd.ext hxf).ext hx3) ⟨hxf.trans hx3,b3,by rw[World.size_alloc];exact Nat.le_refl _⟩
 rw[show ((0:Nat):Int)=0 from rfl] at hw2
 have hfe:(runP step4 (prt 0 c) 0).1=firstErr (prt 0 c):=by rw[run4_first,if_pos rfl]
 rw[hfe] at hw2
 obtain⟨E,hE0⟩:∃ E,firstErr (prt 0 c)=E:=⟨_,rfl⟩
 rw[hE0] at hw2
 have HE0:=Hy hE0
 clear hE0
 have HW2:=Hy hw2
 have HB1:=Hy hb1;have HB2:=Hy hb2
 have hl1:=hb1.lt;have hl2:=hb2.lt;have hlx:=bx1.lt
 clear hw2 hfe b1 b2 bx b3 hb1 hx1 hxf hx3 hlen hcd hsm
 go_wp2_with fail
 refine HW2.out.mono ?_
 rintro e W2 ⟨rfl,⟨hxf2,hb3,hB2⟩,hx2⟩
 have hb22:=(hb2.alloc (.cells #[.int .i64 0] 24)).extC hx2 (by omega)
 have d2:=hb22.cell;have d3:=hb3.cell
 have hl3:=hb3.lt;have hl22:=hb22.lt
 have q2:W2.cell? ⟨w.heap.size+1+1,0,none⟩=some (.int .i64 s2):=d2 0
 have q3:W2.cell? ⟨W1.heap.size,0,none⟩=some (.int .i64 E):=d3 0
 clear d2 d3
 go_wp2_with fail
 go_region_held3 (fun w'=>w'.cell? ⟨w.heap.size+1+1,0,none⟩=some (.int .i64 s2)∧w'.cell? ⟨W1.heap.size,0,none⟩=some (.int .i64 E)) (first|(go_keep;done)|skip)
  (first
  | (go_at_call 38;refine (HWH.out _).mono ?_;rintro e w' ⟨rfl,rfl⟩)
  | (go_at_call 11;refine (First_any _ _ [E,Wn] _ ?_ (by simp)).mono ?_;(next=>(intro k hk;match k,hk with|0,_=>(simp;done)|1,_=>(simp;done)));rintro e w' ⟨rfl,rfl⟩))
 all_goals
  go_wp2
  go_ret
  refine⟨?_,?_⟩
  ·simp[HE0.out]
  ·exact (hxf2.alloc _).drew
end
section
open Go.RowKit
theorem Holds1_any (A:Option Addr) (n c:Nat) (w:World) :
 Calls Tryz.prog 249 #[.slice A n c] w fun e w'=>e=.returned (.func (.func 250) #[] #[.pointer (some ⟨w.heap.size,0,none⟩)])∧w'=w.alloc (.cells #[.slice A n c] 93):=by
 go_enter Tryz.func249,Tryz.ntmps249
 go_wp2
 go_ret
 exact⟨rfl,rfl⟩
theorem leaf_small (k:Int):SmallC (.mk k ⟨#[]⟩ ⟨#[]⟩ []):=.mk k _ _ [] (by decide) (by decide) (by decide) (fun _ h=>by cases h)
end
section
open Go.RowKit
theorem load_cells {w:World} {b i:Nat} (cs:List Value) (hl:cs.length=18) (h:∀ j v,cs[j]?=some v->w.cell? ⟨b,i+j,none⟩=some v):(loadVar 66 ⟨b,i,none⟩).run Tryz.prog w=.ok (.agg cs.toArray) w:=by
 have h1:(isAgg 66).run Tryz.prog w=.ok true w:=by kernel_rfl
 have h2:(sizeOf 66).run Tryz.prog w=.ok 18 w:=by kernel_rfl
 have h3:(loadCells ⟨b,i,none⟩ 18).run Tryz.prog w=.ok cs.toArray w:=by
  rw[<-hl]
  refine run_loadCells_list w ⟨b,i,none⟩ cs fun j v hj=>?_
  have hadd:(⟨b,i,none⟩:Addr).add j=⟨b,i+j,none⟩:=by unfold Addr.add;split<;>simp_all
  rw[hadd]
  exact h j v hj
 simp only[loadVar,Sem.run_bind,h1,Result.andThen,if_true,h2,h3,Sem.run_pure]
theorem load_row {w:World} {b i:Nat} {o:Of} {A:Option Addr} {c:Nat} {k:Int} {n x:ByteArray} {A2:Option Addr} {m c2:Nat} (h:OfRow w b i o A c k n x A2 m c2):(loadVar 66 ⟨b,i,none⟩).run Tryz.prog w=.ok (ofV o A c k n x A2 m c2) w:=by
 refine load_cells (ofCs o A c k n x A2 m c2) rfl fun j v hj=>?_
 match j,hj with
 | 0,hj=>injection hj with hj;subst hj;exact h.r0
 | 1,hj=>injection hj with hj;subst hj;exact h.r1
 | 2,hj=>injection hj with hj;subst hj;exact h.r2
 | 3,hj=>injection hj with hj;subst hj;exact h.r3
 | 4,hj=>injection hj with hj;subst hj;exact h.r4
 | 5,hj=>injection hj with hj;subst hj;exact h.r5
 | 6,hj=>injection hj with hj;subst hj;exact h.r6
 | 7,hj=>injection hj with hj;subst hj;exact h.r7
 | 8,hj=>injection hj with hj;subst hj;exact h.r8
 | 9,hj=>injection hj with hj;subst hj;exact h.r9
 | 10,hj=>injection hj with hj;subst hj;exact h.r10
 | 11,hj=>injection hj with hj;subst hj;exact h.r11
 | 12,hj=>injection hj with hj;subst hj;exact h.r12
 | 13,hj=>injection hj with hj;subst hj;exact h.r13
 | 14,hj=>injection hj with hj;subst hj;exact h.r14
 | 15,hj=>injection hj with hj;subst hj;exact h.r15
 | 16,hj=>injection hj with hj;subst hj;exact h.r16
 | 17,hj=>injection hj with hj;subst hj;exact h.r17
 | j+18,hj=>simp at hj
theorem load_blk {w:World} {g:Nat} {cs:Array Value} (h:Blk w g 66 cs) (hl:cs.size=18):(loadVar 66 ⟨g,0,none⟩).run Tryz.prog w=.ok (.agg cs) w :=
 load_cells cs.toList (by simpa using hl) fun j v hj=>by
  rw[Nat.zero_add,h.cell j]
  simpa using hj
def OffsIn (P:Nat->Prop) (w:World):List Of->List Value->Prop
 | [],xs=>xs=[]
 | o::l,xs=>∃ A c k n x A2 m c2 ys,xs=ofCs o A c k n x A2 m c2++ys∧OfIn P w o A k n x A2 m c2∧OffsIn P w l ys
theorem OffsIn.length {P:Nat->Prop} {w:World}:∀ {l:List Of} {xs:List Value},OffsIn P w l xs->xs.length=l.length * 18
 | [],xs,h=>by rw[show xs=[] from h];rfl
 | o::l,xs,h=>by
   obtain⟨A,c,k,n,x,A2,m,c2,ys,rfl,_,h⟩:=h
   rw[List.length_append,show (ofCs o A c k n x A2 m c2).length=18 from rfl,h.length,List.length_cons]
   omega
theorem OffsIn.keep {P P':Nat->Prop} {w w':World} (hp:∀ b,b < w.heap.size->P b->P' b) (hc:∀ b o v,P b->w.cell? ⟨b,o,none⟩=some v->w'.cell? ⟨b,o,none⟩=some v):∀ {l:List Of} {xs:List Value},OffsIn P w l xs->OffsIn P' w' l xs
 | [],_,h=>h
 | _::_,_,h=>by
   obtain⟨A,c,k,n,x,A2,m,c2,ys,e,hi,h⟩:=h
   exact⟨A,c,k,n,x,A2,m,c2,ys,e,hi.keep hp hc,h.keep hp hc⟩
theorem OffsIn.snoc {P:Nat->Prop} {w:World} {o:Of} {A:Option Addr} {c:Nat} {k:Int} {n x:ByteArray} {A2:Option Addr} {m c2:Nat} (ho:OfIn P w o A k n x A2 m c2):∀ {l:List Of} {xs:List Value},OffsIn P w l xs->OffsIn P w (l++[o]) (xs++ofCs o A c k n x A2 m c2)
 | [],xs,h=>by
   rw[show xs=[] from h]
   exact⟨A,c,k,n,x,A2,m,c2,[],by simp,ho,rfl⟩
 | _::_,_,h=>by
   obtain⟨A',c',k',n',x',A2',m',c2',ys,e,hi,h⟩:=h
   exact⟨A',c',k',n',x',A2',m',c2',_,by rw[e,List.append_assoc],hi,h.snoc ho⟩
theorem OffsIn.last {P:Nat->Prop} {w:World} {o:Of}:∀ {l:List Of} {xs:List Value},OffsIn P w (l++[o]) xs->∃ ys A c k n x A2 m c2,xs=ys++ofCs o A c k n x A2 m c2∧OffsIn P w l ys∧OfIn P w o A k n x A2 m c2
 | [],xs,h=>by
   obtain⟨A,c,k,n,x,A2,m,c2,ys,e,hi,h⟩:=h
   refine⟨[],A,c,k,n,x,A2,m,c2,?_,rfl,hi⟩
   rw[e,show ys=[] from h,List.append_nil,List.nil_append]
 | _::_,_,h=>by
   obtain⟨A',c',k',n',x',A2',m',c2',ys,e,hi,h⟩:=h
   obtain⟨zs,A,c,k,n,x,A2,m,c2,e2,h2,ho⟩:=h.last
   exact⟨_,A,c,k,n,x,A2,m,c2,by rw[e,e2,<-List.append_assoc],⟨A',c',k',n',x',A2',m',c2',zs,rfl,hi,h2⟩,ho⟩
theorem OffsIn.at_ {P:Nat->Prop} {w:World}:∀ {l:List Of} {xs:List Value},OffsIn P w l xs->∀ j (hj:j < l.length),∃ A c k n x A2 m c2,OfIn P w l[j] A k n x A2 m c2∧∀ i u,(ofCs l[j] A c k n x A2 m c2)[i]?=some u->xs[j * 18+i]?=some u
 | [],_,_,j,hj=>absurd hj (Nat.not_lt_zero _)
 | o::l,xs,h,j,hj=>by
   obtain⟨A,c,k,n,x,A2,m,c2,ys,rfl,hi,h⟩:=h
   cases j with
   | zero =>
     refine⟨A,c,k,n,x,A2,m,c2,hi,fun i u hu=>?_⟩
     have hlt:i < (ofCs o A c k n x A2 m c2).length:=(List.getElem?_eq_some_iff.1 hu).1
     rw[Nat.zero_mul,Nat.zero_add,List.getElem?_append_left hlt]
     exact hu
   | succ j =>
     obtain⟨A',c',k',n',x',A2',m',c2',hi',h'⟩:=h.at_ j (by simpa using hj)
     refine⟨A',c',k',n',x',A2',m',c2',hi',fun i u hu=>?_⟩
     have he:(ofCs o A c k n x A2 m c2).length=18:=rfl
     rw[List.getElem?_append_right (by rw[he];omega),he,show (j+1) * 18+i - 18=j * 18+i by omega]
     exact h' i u hu
theorem OffsIn.rd {P:Nat->Prop} {w:World} {l:List Of} {xs:List Value} {g:Nat} (h:OffsIn P w l xs) (hc:∀ j u,xs[j]?=some u->w.cell? ⟨g,j,none⟩=some u):RdO w (some ⟨g,0,none⟩) l:=fun _=>by
 refine⟨g,0,rfl,fun j hj=>?_⟩
 obtain⟨A,c,k,n,x,A2,m,c2,hi,hx⟩:=h.at_ j hj
 have hz:∀ i u,(ofCs l[j] A c k n x A2 m c2)[i]?=some u->w.cell? ⟨g,0+j * 18+i,none⟩=some u:=fun i u hu=>by
  rw[Nat.zero_add];exact hc _ _ (hx i u hu)
 exact⟨A,c,k,n,x,A2,m,c2,hz 0 _ rfl,hz 1 _ rfl,hz 2 _ rfl,hz 3 _ rfl,hz 4 _ rfl,hz 5 _ rfl,hz 6 _ rfl,hz 7 _ rfl,hz 8 _ rfl,hz 9 _ rfl,hz 10 _ rfl,hz 11 _ rfl,hz 12 _ rfl,hz 13 _ rfl,hz 14 _ rfl,hz 15 _ rfl,hz 16 _ rfl,hz 17 _ rfl,
  hi.keep (fun _ _ _=>trivial) (fun _ _ _ _ h=>h)⟩
def Far (b:Nat) (v:Value) (k:Nat):Prop:=b < k∧v.ownBlock≠some k
structure RSt (w:World) (b:Nat) (ch:ByteArray) (sr tm:Int) (v:Value) (l:List Of) (st fl:Int):Prop where
 blk:Blk w b 173 #[.string ch,.int .i64 sr,.int .i64 tm,v,.int .i64 st,.int .i64 fl]
 own:∃ xs,w.ownsRow (b+1) 66 18 v l.length xs∧OffsIn (Far b v) w l xs
 small:∀ o∈l,SmallO o
 cz:ch.size<=2097152
structure RSl (w:World) (b:Nat) (ch:ByteArray) (sr tm:Int) (g cap:Nat) (li:List Of) (ys:List Value) (o:Of) (A:Option Addr) (c:Nat) (k:Int) (n x:ByteArray) (A2:Option Addr) (m c2:Nat) (st fl:Int):Prop where
 blk:Blk w b 173 #[.string ch,.int .i64 sr,.int .i64 tm,.slice (some ⟨g,0,none⟩) (li.length+1) cap,.int .i64 st,.int .i64 fl]
 own:w.ownsRow (b+1) 66 18 (.slice (some ⟨g,0,none⟩) (li.length+1) cap) (li.length+1) (ys++ofCs o A c k n x A2 m c2)
 offs:OffsIn (fun j=>b < j∧j≠g) w li ys
 has:OfIn (fun j=>b < j∧j≠g) w o A k n x A2 m c2
 small:(∀ o∈li,SmallO o)∧SmallO o
 cz:ch.size<=2097152
theorem far_slice {b g n c k:Nat}:Far b (.slice (some ⟨g,0,none⟩) n c) k↔(b < k∧k≠g):=by
 unfold Far
 simp only[Value.ownBlock]
 constructor
 ·rintro ⟨h1,h2⟩
  exact⟨h1,fun h=>h2 (by rw[h])⟩
 ·rintro ⟨h1,h2⟩
  exact⟨h1,fun h=>h2 (by injection h with h;exact h.symm)⟩
theorem RSt.split {w:World} {b:Nat} {ch:ByteArray} {sr tm:Int} {v:Value} {l:List Of} {st fl:Int} (h:RSt w b ch sr tm v l st fl) (hl:l≠[]) :
 ∃ g cap li ys o A c k n x A2 m c2,v=.slice (some ⟨g,0,none⟩) (li.length+1) cap∧l=li++[o]∧b < g∧RSl w b ch sr tm g cap li ys o A c k n x A2 m c2 st fl:=by
 obtain⟨hb,⟨xs,ho,hof⟩,hs,hcz⟩:=h
 obtain⟨li,o,rfl⟩:∃ li o,l=li++[o]:=⟨l.dropLast,l.getLast hl,(List.dropLast_concat_getLast hl).symm⟩
 obtain⟨ys,A,c,k,n,x,A2,m,c2,rfl,h1,h2⟩:=hof.last
 rw[List.length_append,List.length_singleton] at ho
 obtain⟨g,cap,rfl,hlt,hB,_,_⟩:=own_form ho (Nat.succ_pos _)
 refine⟨g,cap,li,ys,o,A,c,k,n,x,A2,m,c2,rfl,rfl,hB,hb,ho,?_,?_,⟨fun q hq=>hs q (List.mem_append_left _ hq),hs o (by simp)⟩,hcz⟩
 ·exact h1.keep (fun _ _ hk=>far_slice.1 hk) (fun _ _ _ _ e=>e)
 ·exact h2.keep (fun _ _ hk=>far_slice.1 hk) (fun _ _ _ _ e=>e)
section
variable {w:World} {b:Nat} {ch:ByteArray} {sr tm:Int} {g cap:Nat} {li:List Of} {ys:List Value} {o:Of} {A:Option Addr} {c:Nat} {k:Int} {n x:ByteArray} {A2:Option Addr} {m c2:Nat} {st fl:Int}
theorem RSl.whole (h:RSl w b ch sr tm g cap li ys o A c k n x A2 m c2 st fl):RSt w b ch sr tm (.slice (some ⟨g,0,none⟩) (li.length+1) cap) (li++[o]) st fl:=by
 refine⟨h.blk,⟨_,by rw[List.length_append,List.length_singleton];exact h.own,?_⟩,fun q hq=>?_,h.cz⟩
 ·exact OffsIn.snoc (h.has.keep (fun _ _ hk=>far_slice.2 hk) (fun _ _ _ _ e=>e)) (h.offs.keep (fun _ _ hk=>far_slice.2 hk) (fun _ _ _ _ e=>e))
 ·rcases List.mem_append.1 hq with h1|h1
  ·exact h.small.1 q h1
  ·rw[List.mem_singleton] at h1;subst h1;exact h.small.2
theorem RSl.base (h:RSl w b ch sr tm g cap li ys o A c k n x A2 m c2 st fl):b < g∧g < w.heap.size:=by
 have:=h.own.lt g rfl
 omega
theorem RSl.len (h:RSl w b ch sr tm g cap li ys o A c k n x A2 m c2 st fl):ys.length=li.length * 18:=h.offs.length
theorem RSl.cellAt (h:RSl w b ch sr tm g cap li ys o A c k n x A2 m c2 st fl) (j:Nat) (hj:j < 18):w.cell? ⟨g,li.length * 18+j,none⟩=(ofCs o A c k n x A2 m c2)[j]?:=by
 rw[h.own.cellAt _ (by omega),<-h.len,List.getElem?_append_right (Nat.le_add_right _ _),Nat.add_sub_cancel_left]
theorem RSl.free (h:RSl w b ch sr tm g cap li ys o A c k n x A2 m c2 st fl) (j:Nat):w.frozen? ⟨g,j,none⟩=false:=h.own.frozenAt j
theorem RSl.ext {w':World} (h:RSl w b ch sr tm g cap li ys o A c k n x A2 m c2 st fl) (hx:Ext w w'):RSl w' b ch sr tm g cap li ys o A c k n x A2 m c2 st fl :=
 ⟨h.blk.ext hx,own_ext h.own hx,h.offs.keep (fun _ _ h=>h) (fun _ _ _ _ e=>hx.cell e),h.has.ext hx,h.small,h.cz⟩
theorem far_keep (p:Addr) (hp:p.block=b∨p.block=g) (u:Value):∀ j i v,(b < j∧j≠g)->w.cell? ⟨j,i,none⟩=some v->(w.setCell p u).cell? ⟨j,i,none⟩=some v:=fun j i v hj e =>
 cell_set_far (by rcases hp with h|h<;>omega) e
theorem RSl.put (h:RSl w b ch sr tm g cap li ys o A c k n x A2 m c2 st fl) (j:Nat) (u:Value) {o':Of} {A':Option Addr} {c':Nat} {k':Int} {n' x':ByteArray} {A2':Option Addr} {m' c2':Nat}
 (hcs:(ofCs o A c k n x A2 m c2).set j u=ofCs o' A' c' k' n' x' A2' m' c2') (hin:OfIn (fun j=>b < j∧j≠g) w o' A' k' n' x' A2' m' c2') (hs:SmallO o') :
 RSl (w.setCell ⟨g,li.length * 18+j,none⟩ u) b ch sr tm g cap li ys o' A' c' k' n' x' A2' m' c2' st fl:=by
 have hb:=h.base
 refine⟨h.blk.far (by dsimp only;omega) _,?_,h.offs.keep (fun _ _ h=>h) (far_keep (b:=b) (g:=g) _ (.inr rfl) u),hin.keep (fun _ _ h=>h) (far_keep (b:=b) (g:=g) _ (.inr rfl) u),⟨h.small.1,hs⟩,h.cz⟩
 have:=(h.own.stored (li.length * 18+j) u).1
 rw[<-h.len,List.set_append_right _ _ (Nat.le_add_right _ _),Nat.add_sub_cancel_left,hcs,h.len] at this
 exact this
end
section
variable {w:World} {b:Nat} {ch:ByteArray} {sr tm:Int} {v:Value} {l:List Of} {st fl:Int}
theorem RSt.ext {w':World} (h:RSt w b ch sr tm v l st fl) (hx:Ext w w'):RSt w' b ch sr tm v l st fl:=by
 obtain⟨hb,⟨xs,ho,hof⟩,hs,hcz⟩:=h
 exact⟨hb.ext hx,⟨xs,own_ext ho hx,hof.keep (fun _ _ h=>h) (fun _ _ _ _ e=>hx.cell e)⟩,hs,hcz⟩
theorem RSt.base (h:RSt w b ch sr tm v l st fl):∀ k,v.ownBlock=some k->b < k∧k < w.heap.size:=by
 obtain⟨_,⟨xs,ho,_⟩,_,_⟩:=h
 exact fun k hk=>ho.lt k hk
theorem RSt.rd (h:RSt w b ch sr tm v l st fl):∃ A c,v=.slice A l.length c∧RdO w A l:=by
 obtain⟨_,⟨xs,ho,hof⟩,_,_⟩:=h
 rcases Nat.eq_zero_or_pos l.length with h0|h0
 ·rcases ho.2 with ⟨rfl,h1⟩|⟨g,cap,cur,rfl,_⟩
  ·exact⟨none,0,by rw[h0],fun hn=>absurd (List.eq_nil_of_length_eq_zero h0) hn⟩
  ·exact⟨_,_,rfl,fun hn=>absurd (List.eq_nil_of_length_eq_zero h0) hn⟩
 ·obtain⟨g,cap,rfl,_,_,_,hc⟩:=own_form ho h0
  exact⟨_,_,rfl,hof.rd hc⟩
end
end
section
open Go.RowKit
abbrev hexS:ByteArray:=⟨#[48,49,50,51,52,53,54,55,56,57,97,98,99,100,101,102]⟩
theorem hex_set (c:UInt8):(bs hexS).contains c=hexB c:=eq_of_beq (u8_all (fun c=>(bs hexS).contains c==hexB c) (by decide +kernel) c)
theorem of_hex (s:ByteArray) (w:World) (hs:s.size<=2097152) :
 Calls Tryz.prog 71 #[.string s,.string ⟨#[48,49,50,51,52,53,54,55,56,57,97,98,99,100,101,102]⟩] w fun e w'=>e=.returned (.bool ((bs s).all hexB))∧Ext w w' :=
 (Of_any s hexS w hs (by decide) (by decide)).mono fun _ _ ⟨h,k⟩=>⟨by rw[h];exact ret_bool (of_set hex_set (bs s)),k⟩
set_option maxHeartbeats 400000 in
theorem outsideF_any (n a b:Int) (w:World) :
 Calls Tryz.prog 183 #[.int .i64 n,.int .i64 a,.int .i64 b] w fun e w'=>e=.returned (.bool (!inI n a b))∧w=w':=by
 go_enter Tryz.func183,Tryz.ntmps183
 go_wp2
 all_goals go_ret
 all_goals refine⟨ret_bool ?_,rfl⟩
 all_goals rw[Bool.eq_iff_iff]
 all_goals simp[inI]
 all_goals omega
theorem hex_num (c:UInt8):hexB c=true↔(48<=c.toNat∧c.toNat<=57)∨(97<=c.toNat∧c.toNat<=102):=by simp[hexB]
set_option maxHeartbeats 4000000 in
theorem isSum_any (s:ByteArray) (w:World) (hs:s.size<=2097152) :
 Calls Tryz.prog 193 #[.string s] w fun e w'=>e=.returned (.bool (sumL (bs s)))∧w=w':=by
 go_enter Tryz.func193,Tryz.ntmps193
 go_wp2
 go_loop [3] (fun i=>∃ k:Nat,k<=s.size∧i=.int .i64 k∧(s.data.toList.take k).all hexB=true) (fun i=>s.size - (intOf i).toNat)
 case atStart=>exact⟨0,Nat.zero_le _,rfl,by simp⟩
 case round =>
  obtain⟨k,hk,rfl,hall⟩:=hrel
  have HALL:=Hy hall
  clear hall
  by_cases hlt:k < s.size
  ·have HFA:=Hy (all_false_of hexB s k hlt)
   have HSU:=Hy (all_take_succ hexB s k hlt)
   have HC:=Hy (hex_num s[k])
   by_cases hh:hexB s[k]=true
   ·have hn:=HC.out.1 hh
    have HH:=Hy hh
    clear hh
    by_cases h1:(48:Int)<=(s[k].toNat:Int)<;>by_cases h2:(s[k].toNat:Int)<=57<;>by_cases h3:(97:Int)<=(s[k].toNat:Int)<;>by_cases h4:(s[k].toNat:Int)<=102<;>first|omega|skip
    all_goals
     clear hn
     go_wp2
     go_round
     case rel=>exact⟨k+1,by omega,by go_num,by rw[HSU.out,HALL.out,HH.out];rfl⟩
     case measure=>simp[intOf];omega
   ·have hn:=fun h=>hh (HC.out.2 h)
    have HH:=Hy (show hexB s[k]=false from by simpa using hh)
    clear hh
    by_cases h1:(48:Int)<=(s[k].toNat:Int)<;>by_cases h2:(s[k].toNat:Int)<=57<;>by_cases h3:(97:Int)<=(s[k].toNat:Int)<;>by_cases h4:(s[k].toNat:Int)<=102<;>first|exact absurd (by omega) hn|skip
    all_goals
     clear hn
     go_wp2
     go_ret
     refine⟨ret_bool ?_,rfl⟩
     unfold sumL
     rw[show (bs s).all hexB=false from HFA.out HH.out]
     rfl
  ·obtain rfl:k=s.size:=by omega
   have HS:=Hy (show sumL (bs s)=((s.size:Int)==16) from by
    rw[take_size] at HALL
    unfold sumL
    rw[show (bs s).all hexB=true from HALL.out,Bool.true_and,bs_length,Bool.eq_iff_iff,decide_eq_true_eq,beq_iff_eq]
    omega)
   go_wp2
   go_ret
   exact⟨ret_bool (by rw[HS.out]),rfl⟩
set_option maxHeartbeats 4000000 in
set_option maxRecDepth 100000 in
theorem compareOffers_any (p o:Of) (A:Option Addr) (c:Nat) (k:Int) (n x:ByteArray) (A2:Option Addr) (m c2:Nat) (A':Option Addr) (c':Nat) (k':Int) (n' x':ByteArray) (A2':Option Addr) (m' c2':Nat) (w:World) (hg:Good w) (hp:SmallO p) (ho:SmallO o) :
 Calls Tryz.prog 108 #[ofV p A c k n x A2 m c2,ofV o A' c' k' n' x' A2' m' c2'] w fun e w'=>e=.returned (.int .i64 (ofCmp p o))∧Ext w w':=by
 have C1:=Hy (fun W=>compare_any p.name o.name W)
 have C2:=Hy (fun W (h:Ext w W)=>Order_any p.vv.a1 p.vv.a2 p.vv.a3 o.vv.a1 o.vv.a2 o.vv.a3 p.vv.a o.vv.a W (hg.ext h) hp.vv ho.vv)
 have HE:=Hy (show ofCmp p o=if Lib.compareBytes (bs p.name) (bs o.name)=0 then orderL p.vv.a1 p.vv.a2 p.vv.a3 (bs p.vv.a) o.vv.a1 o.vv.a2 o.vv.a3 (bs o.vv.a) else Lib.compareBytes (bs p.name) (bs o.name) from rfl)
 clear hp ho hg
 generalize ofCmp p o=E at *
 generalize Lib.compareBytes (bs p.name) (bs o.name)=Z at *
 generalize orderL p.vv.a1 p.vv.a2 p.vv.a3 (bs p.vv.a) o.vv.a1 o.vv.a2 o.vv.a3 (bs o.vv.a)=O at *
 obtain⟨pn,⟨p1,p2,p3,pa⟩,ps,pf,pw,pd,pb,pt,pg,ph,pu,pk⟩:=p
 obtain⟨on,⟨o1,o2,o3,oa⟩,os,of_,ow,od,ob,ot,og,oh,ou,ok⟩:=o
 dsimp only[ofV] at *
 generalize pf.length=pl at *
 generalize of_.length=ol at *
 have b1:=(Blk.new w 66 #[.string pn,.int .i64 p1,.int .i64 p2,.int .i64 p3,.string pa,.string ps,.slice A pl c,.bool pw,.int .i64 k,.string n,.string x,.slice A2 m c2,.int .i64 pb,.int .i64 pt,.int .i64 pg,.bool ph,.bool pu,.bool pk]).alloc (.cells #[.string on,.int .i64 o1,.int .i64 o2,.int .i64 o3,.string oa,.string os,.slice A' ol c',.bool ow,.int .i64 k',.string n',.string x',.slice A2' m' c2',.int .i64 ob,.int .i64 ot,.int .i64 og,.bool oh,.bool ou,.bool ok] 66)
 have b2:=Blk.new (w.alloc (.cells #[.string pn,.int .i64 p1,.int .i64 p2,.int .i64 p3,.string pa,.string ps,.slice A pl c,.bool pw,.int .i64 k,.string n,.string x,.slice A2 m c2,.int .i64 pb,.int .i64 pt,.int .i64 pg,.bool ph,.bool pu,.bool pk] 66)) 66 #[.string on,.int .i64 o1,.int .i64 o2,.int .i64 o3,.string oa,.string os,.slice A' ol c',.bool ow,.int .i64 k',.string n',.string x',.slice A2' m' c2',.int .i64 ob,.int .i64 ot,.int .i64 og,.bool oh,.bool ou,.bool ok]
 rw[World.size_alloc] at b2
 have hx0:Ext w ((w.alloc (.cells #[.string pn,.int .i64 p1,.int .i64 p2,.int .i64 p3,.string pa,.string ps,.slice A pl c,.bool pw,.int .i64 k,.string n,.string x,.slice A2 m c2,.int .i64 pb,.int .i64 pt,.int .i64 pg,.bool ph,.bool pu,.bool pk] 66)).alloc (.cells #[.string on,.int .i64 o1,.int .i64 o2,.int .i64 o3,.string oa,.string os,.slice A' ol c',.bool ow,.int .i64 k',.string n',.string x',.slice A2' m' c2',.int .i64 ob,.int .i64 ot,.int .i64 og,.bool oh,.bool ou,.bool ok] 66)):=((Ext.refl w).alloc _).alloc _
 generalize hW:(w.alloc (.cells #[.string pn,.int .i64 p1,.int .i64 p2,.int .i64 p3,.string pa,.string ps,.slice A pl c,.bool pw,.int .i64 k,.string n,.string x,.slice A2 m c2,.int .i64 pb,.int .i64 pt,.int .i64 pg,.bool ph,.bool pu,.bool pk] 66)).alloc (.cells #[.string on,.int .i64 o1,.int .i64 o2,.int .i64 o3,.string oa,.string os,.slice A' ol c',.bool ow,.int .i64 k',.string n',.string x',.slice A2' m' c2',.int .i64 ob,.int .i64 ot,.int .i64 og,.bool oh,.bool ou,.bool ok] 66)=W0 at *
 have HW:=Hy hW
 clear hW
 have e1:=b1.cell;have e2:=b2.cell
 go_enter Tryz.func108,Tryz.ntmps108
 go_wp2_with fail
 rw[HW.out]
 go_wp2_with fail
 refine (C1.out _).mono ?_
 rintro e w' ⟨rfl,rfl⟩
 by_cases hZ:Z=0
 ·have HF:=Hy (show E=O from by rw[HE.out,if_pos hZ])
  subst hZ
  go_wp2_with fail
  refine (C2.out _ hx0).mono ?_
  rintro e w1 ⟨rfl,hx1⟩
  go_wp2
  go_ret
  exact⟨ret_int HF.out.symm,hx0.trans hx1⟩
 ·have HF:=Hy (show E=Z from by rw[HE.out,if_neg hZ])
  have hne:(Z != 0)=true:=by rw[bne_iff_ne];exact hZ
  clear hZ
  go_wp2
  go_ret
  exact⟨ret_int HF.out.symm,hx0⟩
end
section
open Go.RowKit
set_option maxHeartbeats 8000000 in
set_option maxRecDepth 100000 in
theorem offerFault_any (o:Of) (A:Option Addr) (c:Nat) (k:Int) (n x:ByteArray) (A2:Option Addr) (m c2:Nat) (w:World) (hg:GoodN w) (hi:OfIn AnyB w o A k n x A2 m c2) (hs:SmallO o) :
 Calls Tryz.prog 121 #[ofV o A c k n x A2 m c2] w fun e w'=>e=.returned (.int .i64 (ofErr o))∧Ext w w':=by
 have CN:=Hy (fun W=>IsName_any o.name W hs.name)
 have CV:=Hy (show ∀ W,Ext w W->Calls Tryz.prog 17 #[.agg #[.int .i64 o.vv.a1,.int .i64 o.vv.a2,.int .i64 o.vv.a3,.string o.vv.a]] W fun e w'=>e=.returned (.int .i64 o.vv.err)∧Ext W w' from fun W h=>Check_any o.vv.a1 o.vv.a2 o.vv.a3 o.vv.a W (hg.toGood.ext h) hs.vv)
 have CS:=Hy (fun W=>isSum_any o.sum W hs.sum)
 have CR:=Hy (fun W (h:Ext w W)=>CheckRange_any A o.fr.length c o.fr W (hg.toGood.ext h) rfl (hi.1.rd.ext h) hs.fr hs.len)
 have CC:=Hy (fun W (h:Ext w W)=>CheckCond_any o.wh (.agg #[.int .i64 k,.string n,.string x,.slice A2 m c2]) AnyB W (hg.ext h) (hi.2.ext h) hs.wh hs.cnt)
 have O1:=Hy (fun W=>outsideF_any o.bg 0 1099511627776 W)
 have O2:=Hy (fun W=>outsideF_any o.st 0 1000 W)
 have O3:=Hy (fun W=>outsideF_any o.gr 0 1000 W)
 have HE:=Hy (show ofErr o=firstI [(if nameL (bs o.name)=true then 0 else 5),o.vv.err,(if sumL (bs o.sum)=true then 0 else 2),rngErr o.fr,checkC o.wh,(if (inI o.bg 0 1099511627776&&inI o.st 0 1000&&inI o.gr 0 1000)=true then 0 else 3)] from rfl)
 clear hg hi hs
 generalize ofErr o=E at *
 generalize nameL (bs o.name)=Q1 at *
 generalize o.vv.err=E1 at *
 generalize sumL (bs o.sum)=Q2 at *
 generalize rngErr o.fr=E2 at *
 generalize checkC o.wh=E3 at *
 generalize inI o.bg 0 1099511627776=I1 at *
 generalize inI o.st 0 1000=I2 at *
 generalize inI o.gr 0 1000=I3 at *
 obtain⟨on,⟨o1,o2,o3,oa⟩,os,of_,ow,od,ob,ot,og,oh,ou,ok⟩:=o
 dsimp only[ofV] at *
 generalize of_.length=ol at *
 have b0:=Blk.new w 66 #[.string on,.int .i64 o1,.int .i64 o2,.int .i64 o3,.string oa,.string os,.slice A ol c,.bool ow,.int .i64 k,.string n,.string x,.slice A2 m c2,.int .i64 ob,.int .i64 ot,.int .i64 og,.bool oh,.bool ou,.bool ok]
 have hx0:Ext w (w.alloc (.cells #[.string on,.int .i64 o1,.int .i64 o2,.int .i64 o3,.string oa,.string os,.slice A ol c,.bool ow,.int .i64 k,.string n,.string x,.slice A2 m c2,.int .i64 ob,.int .i64 ot,.int .i64 og,.bool oh,.bool ou,.bool ok] 66)):=(Ext.refl w).alloc _
 generalize hW:w.alloc (.cells #[.string on,.int .i64 o1,.int .i64 o2,.int .i64 o3,.string oa,.string os,.slice A ol c,.bool ow,.int .i64 k,.string n,.string x,.slice A2 m c2,.int .i64 ob,.int .i64 ot,.int .i64 og,.bool oh,.bool ou,.bool ok] 66)=W0 at *
 have HW:=Hy hW
 clear hW
 have e0:=b0.cell
 go_enter Tryz.func121,Tryz.ntmps121
 go_wp2_with fail
 rw[HW.out]
 go_wp2_with fail
 refine (CN.out _).mono ?_
 rintro e w' ⟨rfl,rfl⟩
 cases Q1
 ·go_wp2
  go_ret
  exact⟨ret_int (by rw[HE.out];simp[firstI]),hx0⟩
 go_wp2_with fail
 refine (CV.out _ hx0).mono ?_
 rintro e w1 ⟨rfl,hx1⟩
 have hx01:=hx0.trans hx1
 have b1:=b0.ext hx1
 clear e0
 have e1:=b1.cell
 by_cases h1:E1=0
 rotate_left
 ·have hne:(E1 != 0)=true:=by rw[bne_iff_ne];exact h1
  have H1:=Hy h1
  clear h1
  go_wp2
  go_ret
  exact⟨ret_int (by rw[HE.out];simp[firstI,H1.out]),hx01⟩
 subst h1
 go_wp2_with fail
 refine (CS.out _).mono ?_
 rintro e w' ⟨rfl,rfl⟩
 cases Q2
 ·go_wp2
  go_ret
  exact⟨ret_int (by rw[HE.out];simp[firstI]),hx01⟩
 go_wp2_with fail
 refine (CR.out _ hx01).mono ?_
 rintro e w2 ⟨rfl,hx2⟩
 have hx02:=hx01.trans hx2
 have b2:=b1.ext hx2
 clear e1
 have e2:=b2.cell
 by_cases h2:E2=0
 rotate_left
 ·have hne:(E2 != 0)=true:=by rw[bne_iff_ne];exact h2
  have H2:=Hy h2
  clear h2
  go_wp2
  go_ret
  exact⟨ret_int (by rw[HE.out];simp[firstI,H2.out]),hx02⟩
 subst h2
 go_wp2_with fail
 refine (CC.out _ hx02).mono ?_
 rintro e w3 ⟨rfl,hx3⟩
 have hx03:=hx02.trans hx3
 have b3:=b2.ext hx3
 clear e2
 have e3:=b3.cell
 by_cases h3:E3=0
 rotate_left
 ·have hne:(E3 != 0)=true:=by rw[bne_iff_ne];exact h3
  have H3:=Hy h3
  clear h3
  go_wp2
  go_ret
  exact⟨ret_int (by rw[HE.out];simp[firstI,H3.out]),hx03⟩
 subst h3
 cases I1
 ·go_wp2_with fail
  refine (O1.out _).mono ?_
  rintro e w' ⟨rfl,rfl⟩
  go_wp2
  go_ret
  exact⟨ret_int (by rw[HE.out];simp[firstI]),hx03⟩
 cases I2
 ·go_wp2_with fail
  refine (O1.out _).mono ?_
  rintro e w' ⟨rfl,rfl⟩
  go_wp2_with fail
  refine (O2.out _).mono ?_
  rintro e w' ⟨rfl,rfl⟩
  go_wp2
  go_ret
  exact⟨ret_int (by rw[HE.out];simp[firstI]),hx03⟩
 go_wp2_with fail
 refine (O1.out _).mono ?_
 rintro e w' ⟨rfl,rfl⟩
 go_wp2_with fail
 refine (O2.out _).mono ?_
 rintro e w' ⟨rfl,rfl⟩
 go_wp2_with fail
 refine (O3.out _).mono ?_
 rintro e w' ⟨rfl,rfl⟩
 cases I3
 ·go_wp2
  go_ret
  exact⟨ret_int (by rw[HE.out];simp[firstI]),hx03⟩
 ·go_wp2
  go_ret
  exact⟨ret_int (by rw[HE.out];simp[firstI]),hx03⟩
end
section
open Go.RowKit
def shareL (o:Of) (t:Int):Int:=if t < o.bg∨o.hold=true then 0 else if o.urg=true then 1000 else min 1000 (o.st+o.gr * ((t - o.bg) / 3600))
def timeErr (t:Int):Int:=if inI t 0 1099511627776=true then 0 else 3
theorem inI_iffS {n lo hi:Int}:inI n lo hi=true↔lo<=n∧n<=hi:=by simp[inI]
theorem of_bounds {o:Of} (h:ofErr o=0):(0<=o.bg∧o.bg<=1099511627776)∧(0<=o.st∧o.st<=1000)∧(0<=o.gr∧o.gr<=1000):=by
 obtain⟨_,_,_,_,_,h6⟩:=ofErr_parts h
 simp only[Bool.and_eq_true,inI_iffS] at h6
 exact⟨h6.1.1,h6.1.2,h6.2⟩
theorem share_early {o:Of} {t:Int} (h:t < o.bg):shareL o t=0:=by rw[shareL,if_pos (.inl h)]
theorem share_hold {o:Of} {t:Int} (h:o.hold=true):shareL o t=0:=by rw[shareL,if_pos (.inr h)]
theorem share_urg {o:Of} {t:Int} (h:¬ t < o.bg) (h1:o.hold=false) (h2:o.urg=true):shareL o t=1000:=by rw[shareL,if_neg (by simp[h,h1]),if_pos h2]
theorem share_num {o:Of} {t:Int} (h:¬ t < o.bg) (h1:o.hold=false) (h2:o.urg=false):shareL o t=min 1000 (o.st+o.gr * ((t - o.bg) / 3600)):=by rw[shareL,if_neg (by simp[h,h1]),if_neg (by simp[h2])]
theorem mul_in {g q:Int} (h0:0<=g) (h1:g<=1000) (q0:0<=q) (q1:q<=1099511627776):0<=g * q∧g * q<=1099511627776000:=by
 constructor
 ·exact Int.mul_nonneg h0 q0
 ·have:=Int.mul_le_mul h1 q1 q0 (by omega:(0:Int)<=1000)
  omega
set_option maxRecDepth 100000 in
set_option maxHeartbeats 4000000 in
theorem shareAt_any (o:Of) (A:Option Addr) (c:Nat) (k:Int) (n x:ByteArray) (A2:Option Addr) (m c2:Nat) (t:Int) (w:World) (ho:ofErr o=0) (ht:0<=t∧t<=1099511627776) :
 Calls Tryz.prog 117 #[ofV o A c k n x A2 m c2,.int .i64 t] w fun e w'=>e=.returned (.int .i64 (shareL o t))∧Ext w w':=by
 obtain⟨⟨u0,u1⟩,⟨s0,s1⟩,⟨g0,g1⟩⟩:=of_bounds ho
 have HE:=Hy (fun h=>share_early (o:=o) (t:=t) h)
 have HH:=Hy (fun h=>share_hold (o:=o) (t:=t) h)
 have HU:=Hy (fun h h1 h2=>share_urg (o:=o) (t:=t) h h1 h2)
 have HN:=Hy (fun h h1 h2=>share_num (o:=o) (t:=t) h h1 h2)
 obtain⟨t0,t1⟩:=ht
 generalize shareL o t=R at *
 clear ho
 obtain⟨on,⟨o1,o2,o3,oa⟩,os,of_,ow,od,ob,ot,og,oh,ou,ok⟩:=o
 dsimp only[ofV] at *
 generalize of_.length=ol at *
 have hx0:Ext w (w.alloc (.cells #[.string on,.int .i64 o1,.int .i64 o2,.int .i64 o3,.string oa,.string os,.slice A ol c,.bool ow,.int .i64 k,.string n,.string x,.slice A2 m c2,.int .i64 ob,.int .i64 ot,.int .i64 og,.bool oh,.bool ou,.bool ok] 66)):=(Ext.refl w).alloc _
 by_cases hb:t < ob
 ·have HR:=Hy (HE.out hb)
  go_enter Tryz.func117,Tryz.ntmps117
  go_wp2
  go_ret
  exact⟨ret_int HR.out.symm,hx0⟩
 have hb':ob<=t:=by omega
 cases oh
 rotate_left
 ·have HR:=Hy (HH.out rfl)
  go_enter Tryz.func117,Tryz.ntmps117
  go_wp2
  go_ret
  exact⟨ret_int HR.out.symm,hx0⟩
 cases ou
 rotate_left
 ·have HR:=Hy (HU.out hb rfl rfl)
  clear hb
  go_enter Tryz.func117,Tryz.ntmps117
  go_wp2
  go_ret
  exact⟨ret_int HR.out.symm,hx0⟩
 ·have HR:=Hy (HN.out hb rfl rfl)
  obtain⟨q,hq⟩:∃ q,q=(t - ob) / 3600:=⟨_,rfl⟩
  have hqq:(t - ob) / 3600=q:=hq.symm
  rw[<-hq] at HR
  have q0:0<=q:=by omega
  have q9:q<=1099511627776:=by omega
  obtain⟨p0,p9⟩:=mul_in g0 g1 q0 q9
  obtain⟨p,hp⟩:∃ p,p=og * q:=⟨_,rfl⟩
  have hpp:og * q=p:=hp.symm
  rw[<-hp] at HR p0 p9
  clear hb hq hp
  go_enter Tryz.func117,Tryz.ntmps117
  go_wp2
  go_ret
  exact⟨ret_int (by have:=HR.out;omega),hx0⟩
set_option maxRecDepth 100000 in
set_option maxHeartbeats 4000000 in
theorem ShareOf_any (o:Of) (A:Option Addr) (c:Nat) (k:Int) (n x:ByteArray) (A2:Option Addr) (m c2:Nat) (t:Int) (w:World) (ho:ofErr o=0) (ht:0<=t∧t<=1099511627776) :
 Calls Tryz.prog 52 #[ofV o A c k n x A2 m c2,.int .i64 t] w fun e w'=>e=.returned (.int .i64 (shareL o t))∧Ext w w':=by
 obtain⟨⟨u0,u1⟩,⟨s0,s1⟩,⟨g0,g1⟩⟩:=of_bounds ho
 have HE:=Hy (fun h=>share_early (o:=o) (t:=t) h)
 have HH:=Hy (fun h=>share_hold (o:=o) (t:=t) h)
 have HU:=Hy (fun h h1 h2=>share_urg (o:=o) (t:=t) h h1 h2)
 have HN:=Hy (fun h h1 h2=>share_num (o:=o) (t:=t) h h1 h2)
 obtain⟨t0,t1⟩:=ht
 generalize shareL o t=R at *
 clear ho
 obtain⟨on,⟨o1,o2,o3,oa⟩,os,of_,ow,od,ob,ot,og,oh,ou,ok⟩:=o
 dsimp only[ofV] at *
 generalize of_.length=ol at *
 have hx0:Ext w (w.alloc (.cells #[.string on,.int .i64 o1,.int .i64 o2,.int .i64 o3,.string oa,.string os,.slice A ol c,.bool ow,.int .i64 k,.string n,.string x,.slice A2 m c2,.int .i64 ob,.int .i64 ot,.int .i64 og,.bool oh,.bool ou,.bool ok] 66)):=(Ext.refl w).alloc _
 by_cases hb:t < ob
 ·have HR:=Hy (HE.out hb)
  go_enter Tryz.func52,Tryz.ntmps52
  go_wp2
  go_ret
  exact⟨ret_int HR.out.symm,hx0⟩
 have hb':ob<=t:=by omega
 cases oh
 rotate_left
 ·have HR:=Hy (HH.out rfl)
  go_enter Tryz.func52,Tryz.ntmps52
  go_wp2
  go_ret
  exact⟨ret_int HR.out.symm,hx0⟩
 cases ou
 rotate_left
 ·have HR:=Hy (HU.out hb rfl rfl)
  clear hb
  go_enter Tryz.func52,Tryz.ntmps52
  go_wp2
  go_ret
  exact⟨ret_int HR.out.symm,hx0⟩
 ·have HR:=Hy (HN.out hb rfl rfl)
  obtain⟨q,hq⟩:∃ q,q=(t - ob) / 3600:=⟨_,rfl⟩
  have hqq:(t - ob) / 3600=q:=hq.symm
  rw[<-hq] at HR
  have q0:0<=q:=by omega
  have q9:q<=1099511627776:=by omega
  obtain⟨p0,p9⟩:=mul_in g0 g1 q0 q9
  obtain⟨p,hp⟩:∃ p,p=og * q:=⟨_,rfl⟩
  have hpp:og * q=p:=hp.symm
  rw[<-hp] at HR p0 p9
  clear hb hq hp
  go_enter Tryz.func52,Tryz.ntmps52
  go_wp2
  go_ret
  exact⟨ret_int (by have:=HR.out;omega),hx0⟩
end
section
open Go.RowKit
theorem timeErr_any (t:Int) (w:World):Calls Tryz.prog 51 #[.int .i64 t] w fun e w'=>e=.returned (.int .i64 (timeErr t))∧w=w':=by
 have CI:=Hy (show ∀ W,Calls Tryz.prog 58 #[.int .i64 t,.int .i64 0,.int .i64 1099511627776] W fun e w'=>e=.returned (.bool (inI t 0 1099511627776))∧W=w' from fun W=>(In_any t 0 1099511627776 W).mono fun e w' h=>⟨h.1.trans (ret_bool (by simp[inI])),h.2⟩)
 have CW:=Hy (show ∀ W,Calls Tryz.prog 38 #[.bool (!inI t 0 1099511627776),.int .i64 3] W fun e w'=>e=.returned (.int .i64 (timeErr t))∧W=w' from fun W=>(When_any (!inI t 0 1099511627776) 3 W).mono fun e w' h=>⟨h.1.trans (ret_int (by unfold timeErr;cases inI t 0 1099511627776<;>rfl)),h.2⟩)
 generalize timeErr t=R at *
 generalize inI t 0 1099511627776=Q at *
 have C2:∀ W,Calls Tryz.prog 118 #[.int .i64 t] W fun e w'=>e=.returned (.int .i64 R)∧W=w':=fun w=>by
  go_enter Tryz.func118,Tryz.ntmps118
  go_wp2_with fail
  refine (CI.out _).mono ?_
  rintro e w' ⟨rfl,rfl⟩
  go_wp2_with fail
  refine (CW.out _).mono ?_
  rintro e w' ⟨rfl,rfl⟩
  go_wp2
  go_ret
  exact⟨rfl,rfl⟩
 have C3:=Hy C2
 clear C2
 go_enter Tryz.func51,Tryz.ntmps51
 go_wp2_with fail
 refine (C3.out _).mono ?_
 rintro e w' ⟨rfl,rfl⟩
 go_wp2
 go_ret
 exact⟨rfl,rfl⟩
end
section
open Go.ChangeShapes Go.WideShapes Go.ChangeAt Go.RowKit Go.WideElems Go.Joins
theorem opens_sliceF {T E:TypeId} {α:Type} [Inhabited α] {R:World->α->List Value->Prop} {bk:α->Nat} {sz:Nat} (hT:Tryz.prog.underlying T=some (.slice E)) (hsz:Tryz.prog.cellsOf E=sz) (h0:0 < sz) (hE:Opens E R bk) :
 Opens T (fun W (l:List α) cs=>∃ A c,cs=[.slice A l.length c]∧l.length<=c∧RowOf R sz W A l) (fun l=>(l.map bk).sum+1):=fun H enc W fuel cs x h=>by
 rcases Deep.open_slice hT h with ⟨rfl,rfl⟩|⟨a,len,cap,m,n,D,Pl,rfl,_,hl,_,hm,rfl,hx⟩
 ·exact⟨[],⟨none,0,rfl,Nat.le_refl _,fun h=>absurd rfl h⟩,by simp[Rows.uptoBulk]⟩
 ·obtain⟨l,⟨A,c,e,hr⟩,hb⟩:=opens_slice hT hsz h0 hE H enc W fuel _ _ h
  injection e with e
  injection e with e1 e2 e3
  subst e1 e3
  exact⟨l,⟨_,_,by rw[<-e2],by rw[<-e2];exact hl,hr⟩,hb⟩
theorem rdP_any {W:World} {A:Option Addr} {l:List Sp} (h:RdS W A l):RdP AnyB W A l:=fun hn=>by
 obtain⟨b,i,e,h⟩:=h hn
 exact⟨b,i,e,trivial,h⟩
theorem opens_condF:Opens 52 (fun W (q:Cd × Nat) cs=>CdIn (fun _=>True) W q.1 (.agg cs.toArray)∧cnt q.1<=q.2∧StrC q.2 q.1) (fun q=>q.2):=fun H enc W fuel cs x h=>by
 obtain⟨c,e1,e2,e3⟩:=opens_cond H enc W _ fuel _ _ h (Nat.le_refl _)
 exact⟨⟨c,Rows.uptoBulk x.1⟩,⟨e1,e2,e3⟩,Nat.le_refl _⟩
def ofBk (o:Of):Nat:=o.name.size+o.vv.a.size+o.sum.size+(o.fr.map fun s=>s.f.a.size+s.t.a.size+10).sum+12
def OfCells (W:World) (q:Of × Nat) (cs:List Value):Prop :=
 (∃ A c k n x A2 m c2,cs=ofCs q.1 A c k n x A2 m c2∧OfIn AnyB W q.1 A k n x A2 m c2)∧cnt q.1.wh<=q.2∧StrC q.2 q.1.wh
instance inhFOf:Inhabited Of:=⟨zeroO⟩
set_option maxRecDepth 100000 in
theorem opens_offer:Opens 66 OfCells (fun q=>ofBk q.1+q.2):=fun H enc W fuel cs x h=>by
 obtain⟨xs,n,_,rfl,hl,hlen,hf⟩:=DataW.trod_struct Tryz.underlying66 h
 have hc:Tryz.prog.cellsOf 66=18:=by kernel_rfl
 rw[hc] at hl
 match cs,hl,xs,hlen with
 | [c0,c1,c2,c3,c4,c5,c6,c7,c8,c9,c10,c11,c12,c13,c14,c15,c16,c17],_,[y0,y1,y2,y3,y4,y5,y6,y7,y8,y9,y10,y11],_ =>
   have h0:=hf 0 _ rfl
   replace h0:DataW.trod enc Tryz.prog W 0 (fun _=>true) true n 9 (([c0,c1,c2,c3,c4,c5,c6,c7,c8,c9,c10,c11,c12,c13,c14,c15,c16,c17].drop 0).take (Tryz.prog.cellsOf 9))=some y0:=h0
   rw[show Tryz.prog.cellsOf 9=1 by kernel_rfl] at h0
   obtain⟨a,e0,b0⟩:=opens_string Tryz.underlying9 H enc W n _ _ h0
   have h1:=hf 1 _ rfl
   replace h1:DataW.trod enc Tryz.prog W 0 (fun _=>true) true n 23 (([c0,c1,c2,c3,c4,c5,c6,c7,c8,c9,c10,c11,c12,c13,c14,c15,c16,c17].drop 1).take (Tryz.prog.cellsOf 23))=some y1:=h1
   rw[show Tryz.prog.cellsOf 23=4 by kernel_rfl] at h1
   obtain⟨v,e1,b1⟩:=opens_ver H enc W n _ _ h1
   have h2:=hf 2 _ rfl
   replace h2:DataW.trod enc Tryz.prog W 0 (fun _=>true) true n 9 (([c0,c1,c2,c3,c4,c5,c6,c7,c8,c9,c10,c11,c12,c13,c14,c15,c16,c17].drop 5).take (Tryz.prog.cellsOf 9))=some y2:=h2
   rw[show Tryz.prog.cellsOf 9=1 by kernel_rfl] at h2
   obtain⟨sm,e2,b2⟩:=opens_string Tryz.underlying9 H enc W n _ _ h2
   have h3:=hf 3 _ rfl
   replace h3:DataW.trod enc Tryz.prog W 0 (fun _=>true) true n 42 (([c0,c1,c2,c3,c4,c5,c6,c7,c8,c9,c10,c11,c12,c13,c14,c15,c16,c17].drop 6).take (Tryz.prog.cellsOf 42))=some y3:=h3
   rw[show Tryz.prog.cellsOf 42=1 by kernel_rfl] at h3
   obtain⟨fr,⟨A,c,e3,hfr⟩,b3⟩:=opens_range H enc W n _ _ h3
   have h4:=hf 4 _ rfl
   replace h4:DataW.trod enc Tryz.prog W 0 (fun _=>true) true n 4 (([c0,c1,c2,c3,c4,c5,c6,c7,c8,c9,c10,c11,c12,c13,c14,c15,c16,c17].drop 7).take (Tryz.prog.cellsOf 4))=some y4:=h4
   rw[show Tryz.prog.cellsOf 4=1 by kernel_rfl] at h4
   obtain⟨nw,e4,b4⟩:=opens_bool Tryz.underlying4 H enc W n _ _ h4
   have h5:=hf 5 _ rfl
   replace h5:DataW.trod enc Tryz.prog W 0 (fun _=>true) true n 52 (([c0,c1,c2,c3,c4,c5,c6,c7,c8,c9,c10,c11,c12,c13,c14,c15,c16,c17].drop 8).take (Tryz.prog.cellsOf 52))=some y5:=h5
   rw[show Tryz.prog.cellsOf 52=4 by kernel_rfl] at h5
   obtain⟨⟨cd,m⟩,⟨e5,hcn,hst⟩,b5⟩:=opens_condF H enc W n _ _ h5
   have h6:=hf 6 _ rfl
   replace h6:DataW.trod enc Tryz.prog W 0 (fun _=>true) true n 3 (([c0,c1,c2,c3,c4,c5,c6,c7,c8,c9,c10,c11,c12,c13,c14,c15,c16,c17].drop 12).take (Tryz.prog.cellsOf 3))=some y6:=h6
   rw[show Tryz.prog.cellsOf 3=1 by kernel_rfl] at h6
   obtain⟨bg,e6,b6⟩:=opens_int Tryz.underlying3 H enc W n _ _ h6
   have h7:=hf 7 _ rfl
   replace h7:DataW.trod enc Tryz.prog W 0 (fun _=>true) true n 3 (([c0,c1,c2,c3,c4,c5,c6,c7,c8,c9,c10,c11,c12,c13,c14,c15,c16,c17].drop 13).take (Tryz.prog.cellsOf 3))=some y7:=h7
   rw[show Tryz.prog.cellsOf 3=1 by kernel_rfl] at h7
   obtain⟨st,e7,b7⟩:=opens_int Tryz.underlying3 H enc W n _ _ h7
   have h8:=hf 8 _ rfl
   replace h8:DataW.trod enc Tryz.prog W 0 (fun _=>true) true n 3 (([c0,c1,c2,c3,c4,c5,c6,c7,c8,c9,c10,c11,c12,c13,c14,c15,c16,c17].drop 14).take (Tryz.prog.cellsOf 3))=some y8:=h8
   rw[show Tryz.prog.cellsOf 3=1 by kernel_rfl] at h8
   obtain⟨gr,e8,b8⟩:=opens_int Tryz.underlying3 H enc W n _ _ h8
   have h9:=hf 9 _ rfl
   replace h9:DataW.trod enc Tryz.prog W 0 (fun _=>true) true n 4 (([c0,c1,c2,c3,c4,c5,c6,c7,c8,c9,c10,c11,c12,c13,c14,c15,c16,c17].drop 15).take (Tryz.prog.cellsOf 4))=some y9:=h9
   rw[show Tryz.prog.cellsOf 4=1 by kernel_rfl] at h9
   obtain⟨hd,e9,b9⟩:=opens_bool Tryz.underlying4 H enc W n _ _ h9
   have h10:=hf 10 _ rfl
   replace h10:DataW.trod enc Tryz.prog W 0 (fun _=>true) true n 4 (([c0,c1,c2,c3,c4,c5,c6,c7,c8,c9,c10,c11,c12,c13,c14,c15,c16,c17].drop 16).take (Tryz.prog.cellsOf 4))=some y10:=h10
   rw[show Tryz.prog.cellsOf 4=1 by kernel_rfl] at h10
   obtain⟨ug,e10,b10⟩:=opens_bool Tryz.underlying4 H enc W n _ _ h10
   have h11:=hf 11 _ rfl
   replace h11:DataW.trod enc Tryz.prog W 0 (fun _=>true) true n 4 (([c0,c1,c2,c3,c4,c5,c6,c7,c8,c9,c10,c11,c12,c13,c14,c15,c16,c17].drop 17).take (Tryz.prog.cellsOf 4))=some y11:=h11
   rw[show Tryz.prog.cellsOf 4=1 by kernel_rfl] at h11
   obtain⟨bk,e11,b11⟩:=opens_bool Tryz.underlying4 H enc W n _ _ h11
   simp at e5
   obtain⟨k,n',x,A2,m2,c2',ecd⟩:=e5.cells
   simp at ecd e0 e1 e2 e3 e4 e6 e7 e8 e9 e10 e11
   obtain⟨rfl,rfl,rfl,rfl⟩:=ecd
   subst e0
   obtain⟨rfl,rfl,rfl,rfl⟩:=e1
   subst e2
   subst e3
   subst e4
   subst e6
   subst e7
   subst e8
   subst e9
   subst e10
   subst e11
   refine⟨⟨⟨a,v,sm,fr,nw,cd,bg,st,gr,hd,ug,bk⟩,m⟩,⟨⟨A,c,k,n',x,A2,m2,c2',rfl,rdP_any hfr,e5⟩,hcn,hst⟩,?_⟩
   unfold ofBk
   dsimp only at b0 b1 b2 b3 b4 b5 b6 b7 b8 b9 b10 b11 ⊢
   simp only[List.map_cons,List.map_nil,Rows.uptoBulk,Rows.uptoBulkAll]
   omega
theorem small_offer {o:Of} {n m:Nat} (hn:n<=1048576) (hm:m<=1048576) (h:ofBk o<=n) (h1:cnt o.wh<=m) (h2:StrC m o.wh):SmallO o:=by
 unfold ofBk at h
 have k2:=sum_len (bk:=fun s:Sp=>s.f.a.size+s.t.a.size+10) (c:=1) (fun s=>by omega) o.fr
 refine⟨by omega,by omega,by omega,fun y hy=>?_,by omega,small_of (m:=m) (by omega) h2 (by omega),by omega⟩
 have h4:=sum_mem (bk:=fun s:Sp=>s.f.a.size+s.t.a.size+10) hy
 exact⟨by omega,by omega⟩
end
section
open Go.RowKit
section
variable {P:Program}
theorem run_copy_rowN (w:World) (dT sT ty elem:TypeId) (g o dLen dCap:Nat) (a:Addr) (sLen sCap n sz:Nat) (cur:Array Value) (t:TypeId) (cs:List Value)
 (hu:P.underlying dT=some (.slice elem)) (hs:(P.info? elem).map (·.size)=some sz)
 (hg:w.heap[g]?=some (.cells cur t (0,0))) (hn:n=Nat.min sLen dLen) (hc:cs.length=n * sz)
 (hsrc:∀ j v,cs[j]?=some v->w.cell? (a.add j)=some v) (hfit:o+cs.length<=cur.size) (h1:∀ v∈cs,v.oneCell'=true) :
 (Builtin.copy_ #[dT,sT] ty #[.slice (some ⟨g,o,none⟩) dLen dCap,.slice (some a) sLen sCap]).run P w =
   .ok (goInt n) (w.setRow g (cur.toList.take o++cs++cur.toList.drop (o+cs.length)).toArray):=by
 have hl:=run_loadCells_list (P:=P) w a cs hsrc
 have hst:=run_storeCells_at P g o t cs 0 cur w hg (by simpa using hfit) h1
 rw[hc] at hl
 cases hq:P.info? elem with
 | none=>simp[hq] at hs
 | some i =>
   have hi:i.size=sz:=by simpa [hq] using hs
   simp[Builtin.copy_,run_underlying hu,Builtin.lenOf,Builtin.firstCells,sizeOf,typeInfo,hq,hi,<-hn,hl,hst,hc]
theorem run_append_zeros (w:World) (t tI ty e:TypeId) (i:TypeInfo) (z:Value) (size:Nat) (ht:P.underlying t=some (.slice e)) (hI:P.underlying tI=some (.int .i64)) (hi:P.info? e=some i) (hz:i.zero=some z) (hsize:i.size=size) (hzs:z.cells.size=size) (hsz:0 < size) (hby:i.bytes<=1000)
 (a:Addr) (n cap k:Nat) (hk0:0 < k) (hk:k<=100000001) (hn:n<=100000000) (hcap:cap < n+k) (old:List Value) (hl:old.length=n * size) (hold:∀ j u,old[j]?=some u->w.cell? (a.add j)=some u) :
 ∃ (C:Nat) (rest:List Value),n+k<=C∧C<=maxLen∧rest.length=(C - n) * size∧(Builtin.append_ #[t,tI] ty #[.slice (some a) n cap,.int .i64 (k:Int)]).run P w=.ok (.slice (some ⟨w.heap.size,0,none⟩) (n+k) C) (w.drew.alloc (.cells (old++rest).toArray e)):=by
 subst hsize
 have hw:IntKind.i64.wrap (k:Int)=(k:Int):=by rw[IntKind.wrap_i64];omega
 have hneg:¬ ((k:Int) < 0):=by omega
 have hbig:¬ (281474976710656 < (k:Int) * (i.bytes:Int)):=by
  have:(k:Int) * (i.bytes:Int)<=100000001 * 1000:=Int.mul_le_mul (by omega) (by omega) (by omega) (by omega)
  omega
 have ha:∀ W,Sem.run P (asIntOf (.int .i64 (k:Int))) W=.ok (.i64,(k:Int)) W:=fun _=>rfl
 have hk0':¬ ((k:Int)<=0):=by omega
 have hnf:¬ (n+k<=cap):=by omega
 have hge:=grownCap_ge w (n+k) cap e
 have hcm:grownCap w (n+k) cap e<=maxLen:=grownCap_le_maxLen w (n+k) cap e (by simp only[maxLen];omega)
 have hfc:=run_firstCells_some (P:=P) w.drew i.size n a n cap old hl hold
 have h48:¬ (281474976710656 < Builtin.nextslicecap (n+k) cap * i.bytes):=by
  have h2:=nextslicecap_le (need:=n+k) (old:=cap) hcap
  have h3:Builtin.nextslicecap (n+k) cap * i.bytes<=500000000 * 1000:=Nat.mul_le_mul (by omega) hby
  omega
 have h63:¬ (9223372036854775807 < ((n:Int)+(k:Int))):=by omega
 have hkz:k * i.size≠0:=Nat.mul_ne_zero (by omega) (by omega)
 refine⟨grownCap w (n+k) cap e,(Builtin.zeroCells z.cells k++Builtin.zeroCells z.cells (grownCap w (n+k) cap e - (n+k))).toList,hge,hcm,?_,?_⟩
 ·rw[Array.length_toList,Array.size_append,size_zeroCells,size_zeroCells,hzs,<-Nat.add_mul]
  congr 1
  omega
 ·have hmax:¬ (9223372036854775807 < (n:Int)+max (k:Int) 0):=by omega
  simp[Builtin.append_,run_underlying ht,run_underlying hI,sizeOf,typeInfo,zeroValue,hi,hz,Builtin.lenOf,h48,h63,Question.forced,hfc,newRow,grownCap,hneg,hbig,hw,hkz,asInt,ha,hnf]
  congr 2
  apply Array.toList_inj.1
  simp
end
end
section
open Go.RowKit
theorem splice_in {α:Type} (xs tail cs:List α) (p:Nat) (hp:p<=xs.length) (ht:cs.length<=tail.length) :
 splice (splice (xs++tail) (p+cs.length) (xs.drop p)) p cs=xs.take p++cs++xs.drop p++tail.drop cs.length:=by
 have e1:splice (xs++tail) (p+cs.length) (xs.drop p)=(xs++tail).take (p+cs.length)++(xs.drop p++tail.drop cs.length):=by
  unfold splice
  rw[List.length_drop,show p+cs.length+(xs.length - p)=xs.length+cs.length by omega,List.drop_append]
  simp
 have hl:((xs++tail).take (p+cs.length)).length=p+cs.length:=by simp;omega
 have e2:((xs++tail).take (p+cs.length)).take p=xs.take p:=by
  rw[List.take_take,Nat.min_eq_left (Nat.le_add_right _ _),List.take_append_of_le_length hp]
 rw[e1]
 unfold splice
 rw[List.take_append_of_le_length (by omega),e2,List.drop_append,hl,Nat.sub_self,List.drop_zero,List.drop_eq_nil_of_le (by omega)]
 simp
theorem splice_new {α:Type} (xs rest cs:List α) (p:Nat) (hp:p<=xs.length) (_ht:cs.length+(xs.length - p)<=rest.length) :
 splice (splice (xs.take p++rest) p cs) (p+cs.length) (xs.drop p)=xs.take p++cs++xs.drop p++rest.drop (cs.length+(xs.length - p)):=by
 have hl:(xs.take p).length=p:=by simp;omega
 have e1:splice (xs.take p++rest) p cs=xs.take p++(cs++rest.drop cs.length):=by
  unfold splice
  rw[List.take_append_of_le_length (by omega),List.take_of_length_le (by omega),List.drop_append,hl,show p+cs.length - p=cs.length by omega,List.drop_eq_nil_of_le (by omega)]
  simp
 have hl2:(xs.take p++cs).length=p+cs.length:=by rw[List.length_append,hl]
 have e2:splice ((xs.take p++cs)++rest.drop cs.length) (p+cs.length) (xs.drop p)=(xs.take p++cs)++(xs.drop p++rest.drop (cs.length+(xs.length - p))):=by
  unfold splice
  rw[List.take_append_of_le_length (by omega),List.take_of_length_le (by omega),List.length_drop,List.drop_append,hl2,show List.drop (p+cs.length+(xs.length - p)) (xs.take p++cs)=[] from List.drop_eq_nil_of_le (by omega),List.nil_append,List.drop_drop,
   show cs.length+(p+cs.length+(xs.length - p) - (p+cs.length))=cs.length+(xs.length - p) by omega]
 rw[e1,<-List.append_assoc,e2]
 simp only[List.append_assoc]
section
variable {P:Program}
theorem step_copyN {ops:Array Oper} {o:Oper} {a:Act} {w:World} {K:Act->World->Prop} {Q:Exit->Act->World->Prop} {E:Prop}
 (hg:o.guard=none) (d x:Operand) (dT sT:TypeId) (hop:o.op=Op.call { callee:=Callee.builtin Builtin.copy,args:=#[d,x],argTypes:=#[dT,sT] })
 (v u:Value) (hd:a.eval d=v) (hx:a.eval x=u) {v':Value} {w':World} (hr:(Builtin.copy_ #[dT,sT] o.type #[v,u]).run P w=.ok v' w') (hK:K (a.put o.dst v') w') :
 if Region.wanted o (yielded ops a.tmps)=true then Oper.wp P o a w K Q else E:=by
 have hw:Region.wanted o (yielded ops a.tmps)=true:=by simp[Region.wanted,hg]
 rw[if_pos hw]
 unfold Oper.wp
 simp[execOp,hop,resolve,invoke,builtin,hd,hx,hr,Result.andThen]
 exact hK
theorem wpList_copyE (w:World) {ops:Array Oper} {rest:List Oper} {o:Oper} {a:Act} {Q:Exit->Act->World->Prop} (hgd:o.guard=none) (d s:Operand) (t t':TypeId)
 (ho:o.op=.call { callee:=.builtin .copy,args:=#[d,s],argTypes:=#[t,t'] }) (v u:Value) (hd:a.eval d=v) (hs:a.eval s=u) {v':Value} {w':World}
 (hr:(Builtin.copy_ #[t,t'] o.type #[v,u]).run P w=.ok v' w') (h:wpList P ops Q rest (a.put o.dst v') w'):wpList P ops Q (o::rest) a w:=by
 refine wpList_plain hgd fun K hK=>?_
 unfold Oper.wp
 simp[execOp,ho,resolve,invoke,builtin,hd,hs,hr,Result.andThen]
 exact hK _ _ h
end
theorem infOffer:(Tryz.prog.info? 66).map (fun i=>(i.zero,i.size,i.bytes))=some (some (.agg #[.string ⟨#[]⟩,.int .i64 0,.int .i64 0,.int .i64 0,.string ⟨#[]⟩,.string ⟨#[]⟩,.slice none 0 0,.bool false,.int .i64 0,.string ⟨#[]⟩,.string ⟨#[]⟩,.slice none 0 0,.int .i64 0,.int .i64 0,.int .i64 0,.bool false,.bool false,.bool false]),18,200):=by kernel_rfl
end
section
open Go.RowKit
theorem OffsIn.ins {P:Nat->Prop} {w:World} {o:Of} {A:Option Addr} {c:Nat} {k:Int} {n x:ByteArray} {A2:Option Addr} {m c2:Nat} (ho:OfIn P w o A k n x A2 m c2) :
 ∀ {l:List Of} {xs:List Value} (i:Nat),i<=l.length->OffsIn P w l xs->OffsIn P w (l.take i++o::l.drop i) (xs.take (i * 18)++ofCs o A c k n x A2 m c2++xs.drop (i * 18))
 | l,xs,0,_,h=>by
   rw[Nat.zero_mul,List.take_zero,List.take_zero,List.nil_append,List.nil_append,List.drop_zero,List.drop_zero]
   exact⟨A,c,k,n,x,A2,m,c2,xs,rfl,ho,h⟩
 | [],_,i+1,hi,_=>absurd hi (by simp)
 | p::l,xs,i+1,hi,h=>by
   obtain⟨A',c',k',n',x',A2',m',c2',ys,rfl,hp,h⟩:=h
   have ih:=OffsIn.ins (c:=c) ho i (by simpa using hi) h
   have he:(ofCs p A' c' k' n' x' A2' m' c2').length=18:=rfl
   refine⟨A',c',k',n',x',A2',m',c2',_,?_,hp,ih⟩
   rw[show (i+1) * 18=18+i * 18 by omega,List.take_append,List.drop_append,he,show 18+i * 18 - 18=i * 18 by omega,List.take_of_length_le (by omega),List.drop_eq_nil_of_le (by omega)]
   simp only[List.append_assoc,List.nil_append]
theorem OffsIn.one {P:Nat->Prop} {w:World}:∀ {l:List Of} {xs:List Value},OffsIn P w l xs->∀ u∈xs,u.oneCell'=true
 | [],xs,h,u,hu=>by rw[show xs=[] from h] at hu;cases hu
 | p::l,xs,h,u,hu=>by
   obtain⟨A',c',k',n',x',A2',m',c2',ys,rfl,hp,h⟩:=h
   rcases List.mem_append.1 hu with h1|h1
   ·unfold ofCs at h1
    simp only[List.mem_cons,List.not_mem_nil,or_false] at h1
    rcases h1 with rfl|rfl|rfl|rfl|rfl|rfl|rfl|rfl|rfl|rfl|rfl|rfl|rfl|rfl|rfl|rfl|rfl|rfl<;>rfl
   ·exact h.one u h1
end
section
open Go.RowKit
def mapN (m:Nat) (U:Nat->Value):List Value:=(List.range m).map U
theorem mapN_len (m:Nat) (U:Nat->Value):(mapN m U).length=m:=by unfold mapN;simp
theorem mapN_get {m i:Nat} {U:Nat->Value} (h:i < m):(mapN m U)[i]?=some (U i):=by unfold mapN;simp[h]
theorem mapN_inv {m j:Nat} {U:Nat->Value} {u:Value} (h:(mapN m U)[j]?=some u):j < m∧u=U j:=by
 obtain⟨h1,h2⟩:=List.getElem?_eq_some_iff.1 h
 rw[mapN_len] at h1
 have:=mapN_get (U:=U) h1
 rw[this] at h
 exact⟨h1,(Option.some.inj h).symm⟩
theorem mapN_set {m k:Nat} {U:Nat->Value} {u:Value}:(mapN m U).set k u=mapN m fun i=>if i=k then u else U i:=by
 apply List.ext_getElem?
 intro j
 rw[List.getElem?_set]
 by_cases hj:j < m
 ·rw[mapN_get hj,mapN_get hj,mapN_len]
  by_cases e:k=j
  ·subst e
   simp[hj]
  ·rw[if_neg e,if_neg (fun h=>e h.symm)]
 ·rw[List.getElem?_eq_none (by rw[mapN_len];omega),List.getElem?_eq_none (by rw[mapN_len];omega),mapN_len]
  simp;omega
def putC (U:Nat->Value) (k:Nat) (a0 a1 a2 a3:Value):Nat->Value:=fun i=>if i=k * 4+3 then a3 else if i=k * 4+2 then a2 else if i=k * 4+1 then a1 else if i=k * 4 then a0 else U i
theorem putC_lo {U:Nat->Value} {k i:Nat} {a0 a1 a2 a3:Value} (h:i < k * 4∨k * 4+4<=i):putC U k a0 a1 a2 a3 i=U i:=by
 unfold putC
 rw[if_neg (by omega),if_neg (by omega),if_neg (by omega),if_neg (by omega)]
theorem putC_at {U:Nat->Value} {k:Nat} {a0 a1 a2 a3:Value}:putC U k a0 a1 a2 a3 (k * 4)=a0∧putC U k a0 a1 a2 a3 (k * 4+1)=a1∧putC U k a0 a1 a2 a3 (k * 4+2)=a2∧putC U k a0 a1 a2 a3 (k * 4+3)=a3:=by
 unfold putC
 refine⟨?_,?_,?_,?_⟩<;>simp
def CRow (w:World) (B g c n:Nat) (U:Nat->Value):Prop:=w.ownsRow B 52 4 (.slice (some ⟨g,0,none⟩) n c) n (mapN (n * 4) U)
namespace CRow
variable {w w':World} {B g c n:Nat} {U:Nat->Value}
theorem ext (h:CRow w B g c n U) (hx:Ext w w'):CRow w' B g c n U:=own_ext h hx
theorem cell (h:CRow w B g c n U) {i:Nat} (hi:i < n * 4):w.cell? ⟨g,i,none⟩=some (U i):=by
 rw[World.ownsRow.cellAt h i hi,mapN_get hi]
theorem free (h:CRow w B g c n U) (i:Nat):w.frozen? ⟨g,i,none⟩=false:=World.ownsRow.frozenAt h i
theorem put (h:CRow w B g c n U) (k:Nat) (a0 a1 a2 a3:Value):CRow ((((w.setCell ⟨g,k * 4,none⟩ a0).setCell ⟨g,k * 4+1,none⟩ a1).setCell ⟨g,k * 4+2,none⟩ a2).setCell ⟨g,k * 4+3,none⟩ a3) B g c n (putC U k a0 a1 a2 a3):=by
 have h1:=(World.ownsRow.stored h (k * 4) a0).1
 have h2:=(World.ownsRow.stored h1 (k * 4+1) a1).1
 have h3:=(World.ownsRow.stored h2 (k * 4+2) a2).1
 have h4:=(World.ownsRow.stored h3 (k * 4+3) a3).1
 rw[mapN_set,mapN_set,mapN_set,mapN_set] at h4
 exact h4
end CRow
def CloneAt (c:Cd):Prop:=∀ (v:Value) (w:World),CdIn AnyB w c v->Calls Tryz.prog 185 #[v] w fun e w'=>∃ v',e=.returned v'∧CdAt w.heap.size w' c v'∧Ext w w'
theorem row_slice {w:World} {B n:Nat} {v:Value} {xs:List Value} (h:w.ownsRow B 52 4 v n xs):∃ A g c,v=.slice A n c∧n<=c∧B<=g∧(0 < n->A=some ⟨g,0,none⟩∧g < w.heap.size∧w.ownsRow B 52 4 (.slice (some ⟨g,0,none⟩) n c) n xs):=by
 rcases Nat.eq_zero_or_pos n with h0|h0
 ·subst h0
  rcases h.2 with ⟨rfl,_⟩|⟨g,cap,cur,rfl,_⟩
  ·exact⟨none,B,0,rfl,Nat.le_refl _,Nat.le_refl _,fun h=>absurd h (Nat.lt_irrefl _)⟩
  ·exact⟨_,B,_,rfl,Nat.zero_le _,Nat.le_refl _,fun h=>absurd h (Nat.lt_irrefl _)⟩
 ·obtain⟨g,c,rfl,hg,hB,hnc,_⟩:=own_form h h0
  exact⟨_,g,c,rfl,hnc,hB,fun _=>⟨rfl,hg,h⟩⟩
theorem cput_far {w:World} {g m b o:Nat} {a0 a1 a2 a3 v:Value} (hb:b≠g) (h:w.cell? ⟨b,o,none⟩=some v):((((w.setCell ⟨g,m,none⟩ a0).setCell ⟨g,m+1,none⟩ a1).setCell ⟨g,m+2,none⟩ a2).setCell ⟨g,m+3,none⟩ a3).cell? ⟨b,o,none⟩=some v :=
 cell_set_far (by show b≠g;exact hb) (cell_set_far (by show b≠g;exact hb) (cell_set_far (by show b≠g;exact hb) (cell_set_far (by show b≠g;exact hb) h)))
theorem Blk.put_far {w:World} {g m b:Nat} {t:TypeId} {cs:Array Value} {a0 a1 a2 a3:Value} (hb:b≠g) (h:Blk w b t cs):Blk ((((w.setCell ⟨g,m,none⟩ a0).setCell ⟨g,m+1,none⟩ a1).setCell ⟨g,m+2,none⟩ a2).setCell ⟨g,m+3,none⟩ a3) b t cs :=
 (((h.far (by show b≠g;exact hb) _).far (by show b≠g;exact hb) _).far (by show b≠g;exact hb) _).far (by show b≠g;exact hb) _
theorem CdIn.put_far {P:Nat->Prop} {w:World} {g m:Nat} {a0 a1 a2 a3:Value} {c:Cd} {v:Value} (hg:¬ P g) (h:CdIn P w c v):CdIn P ((((w.setCell ⟨g,m,none⟩ a0).setCell ⟨g,m+1,none⟩ a1).setCell ⟨g,m+2,none⟩ a2).setCell ⟨g,m+3,none⟩ a3) c v :=
 (((h.set (by exact hg) _).set (by exact hg) _).set (by exact hg) _).set (by exact hg) _
theorem ext_put {a w:World} {g m:Nat} {a0 a1 a2 a3:Value} (h:Ext a w) (hg:a.heap.size<=g):Ext a ((((w.setCell ⟨g,m,none⟩ a0).setCell ⟨g,m+1,none⟩ a1).setCell ⟨g,m+2,none⟩ a2).setCell ⟨g,m+3,none⟩ a3) :=
 (((h.setCell hg _).setCell hg _).setCell hg _).setCell hg _
theorem size_put {w:World} {g m:Nat} {a0 a1 a2 a3:Value}:((((w.setCell ⟨g,m,none⟩ a0).setCell ⟨g,m+1,none⟩ a1).setCell ⟨g,m+2,none⟩ a2).setCell ⟨g,m+3,none⟩ a3).heap.size=w.heap.size:=by simp[World.setCell]
set_option maxRecDepth 100000 in
set_option maxHeartbeats 16000000 in
theorem clone_step (k:Int) (n x:ByteArray) (l:List Cd) (hll:l.length<=2097152) (ih:∀ c∈l,CloneAt c):CloneAt (.mk k n x l):=by
 intro v w hc
 cases hc with
 | mk _ _ _ _ A cp b o u0 u1 u2 u3 hA hb h0 h1 h2 h3 hr =>
 obtain⟨U0,hU0⟩:∃ U0:Nat->Value,∀ j,U0 (j * 4)=u0 j∧U0 (j * 4+1)=u1 j∧U0 (j * 4+2)=u2 j∧U0 (j * 4+3)=u3 j:=by
  refine⟨fun i=>if i % 4=0 then u0 (i / 4) else if i % 4=1 then u1 (i / 4) else if i % 4=2 then u2 (i / 4) else u3 (i / 4),fun j=>⟨?_,?_,?_,?_⟩⟩<;>dsimp only
  ·rw[if_pos (by omega),show j * 4 / 4=j by omega]
  ·rw[if_neg (by omega),if_pos (by omega),show (j * 4+1) / 4=j by omega]
  ·rw[if_neg (by omega),if_neg (by omega),if_pos (by omega),show (j * 4+2) / 4=j by omega]
  ·rw[if_neg (by omega),if_neg (by omega),if_neg (by omega),show (j * 4+3) / 4=j by omega]
 have hcell:∀ i,i < l.length * 4->w.cell? ⟨b,o+i,none⟩=some (U0 i):=fun i hi=>by
  have hj:i / 4 < l.length:=by omega
  have hm:i % 4 < 4:=Nat.mod_lt _ (by decide)
  obtain⟨e0,e1,e2,e3⟩:=hU0 (i / 4)
  have e:i=i / 4 * 4+i % 4:=by omega
  rw[e]
  generalize i / 4=q at *
  generalize i % 4=r at *
  match r,hm with
  | 0,_=>rw[Nat.add_zero,e0];exact h0 q hj
  | 1,_=>rw[e1,<-Nat.add_assoc];exact h1 q hj
  | 2,_=>rw[e2,<-Nat.add_assoc];exact h2 q hj
  | 3,_=>rw[e3,<-Nat.add_assoc];exact h3 q hj
 have HCH:=Hy (show ∀ j (hj:j < l.length),CdIn AnyB w l[j] (.agg #[U0 (j * 4),U0 (j * 4+1),U0 (j * 4+2),U0 (j * 4+3)]) from fun j hj=>by
  obtain⟨e0,e1,e2,e3⟩:=hU0 j
  rw[e0,e1,e2,e3]
  exact hr j hj)
 have hone:∀ i,i < l.length * 4->(U0 i).oneCell'=true:=fun i hi=>by
  have hj:i / 4 < l.length:=by omega
  have hm:i % 4 < 4:=Nat.mod_lt _ (by decide)
  obtain⟨ck,cn,cx,cA,cm,ccp,e⟩:=(HCH.out (i / 4) hj).cells
  simp only[Value.agg.injEq,Array.mk.injEq,List.cons.injEq,and_true] at e
  obtain⟨q0,q1,q2,q3⟩:=e
  have e:i=i / 4 * 4+i % 4:=by omega
  rw[e]
  generalize i / 4=q at *
  generalize i % 4=r at *
  match r,hm with
  | 0,_=>rw[Nat.add_zero,q0];rfl
  | 1,_=>rw[q1];rfl
  | 2,_=>rw[q2];rfl
  | 3,_=>rw[q3];rfl
 obtain⟨N,hN⟩:∃ N,l.length=N:=⟨_,rfl⟩
 let C0:Array Value:=#[.int .i64 k,.string n,.string x,.slice A N cp]
 have x1:Ext w (w.alloc (.cells #[.int .i64 k,.string n,.string x,.slice A N cp] 52)):=(Ext.refl w).alloc _
 have x2:Ext (w.alloc (.cells #[.int .i64 k,.string n,.string x,.slice A N cp] 52)) ((w.alloc (.cells #[.int .i64 k,.string n,.string x,.slice A N cp] 52)).alloc (.cells #[.int .i64 0,.string ⟨#[]⟩,.string ⟨#[]⟩,.slice none 0 0] 52)):=(Ext.refl _).alloc _
 have s1:(w.alloc (.cells #[.int .i64 k,.string n,.string x,.slice A N cp] 52)).heap.size=w.heap.size+1:=World.size_alloc _ _
 have b0:Blk ((w.alloc (.cells #[.int .i64 k,.string n,.string x,.slice A N cp] 52)).alloc (.cells #[.int .i64 0,.string ⟨#[]⟩,.string ⟨#[]⟩,.slice none 0 0] 52)) w.heap.size 52 #[.int .i64 k,.string n,.string x,.slice A N cp]:=(Blk.new w _ _).ext x2
 have b1:Blk ((w.alloc (.cells #[.int .i64 k,.string n,.string x,.slice A N cp] 52)).alloc (.cells #[.int .i64 0,.string ⟨#[]⟩,.string ⟨#[]⟩,.slice none 0 0] 52)) (w.heap.size+1) 52 #[.int .i64 0,.string ⟨#[]⟩,.string ⟨#[]⟩,.slice none 0 0]:=by
  have:=Blk.new (w.alloc (.cells #[.int .i64 k,.string n,.string x,.slice A N cp] 52)) 52 #[.int .i64 0,.string ⟨#[]⟩,.string ⟨#[]⟩,.slice none 0 0]
  rwa [s1] at this
 have hx0:=x1.trans x2
 have s2:((w.alloc (.cells #[.int .i64 k,.string n,.string x,.slice A N cp] 52)).alloc (.cells #[.int .i64 0,.string ⟨#[]⟩,.string ⟨#[]⟩,.slice none 0 0] 52)).heap.size=w.heap.size+2:=by rw[World.size_alloc,s1]
 have CC:=Hy (CloneCd_any (mapN (N * 4) U0) A N cp ((w.alloc (.cells #[.int .i64 k,.string n,.string x,.slice A N cp] 52)).alloc (.cells #[.int .i64 0,.string ⟨#[]⟩,.string ⟨#[]⟩,.slice none 0 0] 52)) (mapN_len _ _) (fun h=>⟨b,o,hA (by omega),fun j u hu=>by
  obtain⟨hj,rfl⟩:=mapN_inv hu
  exact hx0.cell (hcell j (by omega))⟩) (fun u hu=>by
  obtain⟨j,hj,rfl⟩:=List.mem_iff_getElem.1 hu
  rw[mapN_len] at hj
  have:=mapN_get (U:=U0) hj
  rw[List.getElem?_eq_getElem (by rw[mapN_len];exact hj)] at this
  rw[Option.some.inj this]
  exact hone j (by omega)) (by omega))
 have HIH:=Hy (fun j (hj:j < l.length)=>ih _ (List.getElem_mem hj))
 have HNL:=Hy hN
 generalize hW0:((w.alloc (.cells #[.int .i64 k,.string n,.string x,.slice A N cp] 52)).alloc (.cells #[.int .i64 0,.string ⟨#[]⟩,.string ⟨#[]⟩,.slice none 0 0] 52))=W0 at *
 have HW0:=Hy hW0
 have e0:=b0.cell;have l0:=b0.lt
 clear hW0 x1 x2 s1 hone hcell hU0 h0 h1 h2 h3 hr hA hb ih C0
 rw[hN]
 rw[hN] at hll
 clear hN
 go_enter Tryz.func185,Tryz.ntmps185
 go_wp2_with fail
 rw[HW0.out]
 refine CC.out.mono ?_
 rintro e w1 ⟨vv,rfl,hown,hx1⟩
 obtain⟨A',g,c',rfl,hc',hBg,hpos⟩:=row_slice hown
 have B0:=b0.ext hx1;have B1:=b1.ext hx1
 have e1:=B0.cell;have l1:=B0.lt;have f1:=B0.free
 have hs1:=hx1.size
 clear hown e0 l0 CC b0 b1
 have B2:=Hy (show Blk (w1.setCell ⟨w.heap.size,3,none⟩ (.slice A' N c')) w.heap.size 52 #[.int .i64 k,.string n,.string x,.slice A' N c'] from B0.set 3 (.slice A' N c'))
 have B3:=Hy (B1.far (p:=⟨w.heap.size,3,none⟩) (by show w.heap.size+1≠w.heap.size;omega) (.slice A' N c'))
 have HPOS:=Hy (show 0 < N->A'=some ⟨g,0,none⟩∧g < w1.heap.size∧CRow (w1.setCell ⟨w.heap.size,3,none⟩ (.slice A' N c')) W0.heap.size g c' N U0 from fun h0 =>
  ⟨(hpos h0).1,(hpos h0).2.1,World.ownsRow.kept (hpos h0).2.2 (grown_set w1 ⟨w.heap.size,3,none⟩ (.slice A' N c')) (.inr (by show some g≠some w.heap.size;intro e;injection e with e;omega))⟩)
 have hxs:Ext w (w1.setCell ⟨w.heap.size,3,none⟩ (.slice A' N c')):=(hx0.trans hx1).setCell (Nat.le_refl _) _
 have hss:(w1.setCell ⟨w.heap.size,3,none⟩ (.slice A' N c')).heap.size=w1.heap.size:=by simp[World.setCell]
 have e2:=B2.out.cell;have l2:=B2.out.lt
 clear hpos B0 B1
 go_wp2_with fail
 clear e1 l1 f1 e2 l2
 have HAg:=Hy (fun h=>(HPOS.out h).1)
 go_loopw [12] (fun i wr=>∃ (j:Nat) (U:Nat->Value),j<=N∧i=.int .i64 j∧Hid (Blk wr w.heap.size 52 #[.int .i64 k,.string n,.string x,.slice A' N c'])∧Hid (Blk wr (w.heap.size+1) 52 #[.int .i64 0,.string ⟨#[]⟩,.string ⟨#[]⟩,.slice none 0 0])∧Hid (0 < N->g < wr.heap.size∧CRow wr W0.heap.size g c' N U) ∧
  Hid (∀ q (hq:q < l.length),q < j->CdIn (fun b=>g < b) wr l[q] (.agg #[U (q * 4),U (q * 4+1),U (q * 4+2),U (q * 4+3)]))∧Hid (∀ i,j * 4<=i->U i=U0 i)∧Ext w wr) (fun i _=>N - (intOf i).toNat)
 case atStart=>exact⟨0,U0,Nat.zero_le _,rfl,B2,B3,Hy (fun h=>⟨by rw[hss];exact (HPOS.out h).2.1,(HPOS.out h).2.2⟩),Hy (fun _ _ h=>absurd h (Nat.not_lt_zero _)),Hy (fun _ _=>rfl),hxs⟩
 case round =>
  clear B2 B3 HPOS hxs hss
  obtain⟨j,U,hj,rfl,HB0,HB1,HP,HD,HU,hxr⟩:=hrel
  obtain⟨wo,rfl⟩:∃ wo:World,wo=wr:=⟨_,rfl⟩
  by_cases hlt:j < N
  ·obtain rfl:=HAg.out (by omega)
   obtain⟨hgl,hrow⟩:=HP.out (by omega)
   have hjl:j < l.length:=by rw[HNL.out];exact hlt
   have z0:=hrow.cell (i:=j * 4) (by omega)
   have z1:=hrow.cell (i:=j * 4+1) (by omega)
   have z2:=hrow.cell (i:=j * 4+2) (by omega)
   have z3:=hrow.cell (i:=j * 4+3) (by omega)
   rw[HU.out _ (Nat.le_refl _)] at z0
   rw[HU.out _ (by omega)] at z1 z2 z3
   have hcd:=HCH.out j hjl
   obtain⟨ck,cn,cx,cA,cm,ccp,ev⟩:=hcd.cells
   rw[ev] at hcd
   simp only[Value.agg.injEq,Array.mk.injEq,List.cons.injEq,and_true] at ev
   obtain⟨q0,q1,q2,q3⟩:=ev
   rw[q0] at z0;rw[q1] at z1;rw[q2] at z2;rw[q3] at z3
   clear q0 q1 q2 q3
   have bC:=Blk.new wo 52 #[.int .i64 ck,.string cn,.string cx,.slice cA cm ccp]
   have hxa:Ext wo (wo.alloc (.cells #[.int .i64 ck,.string cn,.string cx,.slice cA cm ccp] 52)):=(Ext.refl wo).alloc _
   have hsa:(wo.alloc (.cells #[.int .i64 ck,.string cn,.string cx,.slice cA cm ccp] 52)).heap.size=wo.heap.size+1:=World.size_alloc _ _
   have HB0a:=Hy (HB0.out.ext hxa);have HB1a:=Hy (HB1.out.ext hxa)
   have HRa:=Hy (hrow.ext hxa)
   have CI:=Hy (fun W (h:Ext w W)=>HIH.out j hjl _ W (hcd.ext h))
   have HDa:=Hy (fun q hq hqj=>(HD.out q hq hqj).ext hxa)
   generalize hW1:wo.alloc (.cells #[.int .i64 ck,.string cn,.string cx,.slice cA cm ccp] 52)=W1 at *
   have HW1:=Hy hW1
   have hxra:=hxr.trans hxa
   have eC:=bC.cell;have lC:=bC.lt
   have e1:=HB0a.out.cell;have l1:=HB0a.out.lt
   clear hW1 hcd hrow HP HD
   go_wp2_with fail
   rw[HW1.out]
   have d0:=e1 3
   have g0:=eC 0;have g1:=eC 1;have g2:=eC 2;have g3:=eC 3
   simp at d0 g0 g1 g2 g3
   have hn1:w.heap.size≠g:=by omega
   have hn2:wo.heap.size≠g:=by omega
   have xO:Ext W1 W1.drew:=(Ext.refl W1).drew
   go_region_held3 (fun w'=>w'.cell? ⟨w.heap.size,3,none⟩=some (.slice (some ⟨g,0,none⟩) N c')∧w'.cell? ⟨wo.heap.size,0,none⟩=some (.int .i64 ck)∧w'.cell? ⟨wo.heap.size,1,none⟩=some (.string cn)∧w'.cell? ⟨wo.heap.size,2,none⟩=some (.string cx)∧w'.cell? ⟨wo.heap.size,3,none⟩=some (.slice cA cm ccp))
    (first|(with_reducible exact⟨hx3.cell (xO.cell d0),hx3.cell (xO.cell g0),hx3.cell (xO.cell g1),hx3.cell (xO.cell g2),hx3.cell (xO.cell g3)⟩)|(with_reducible exact⟨cput_far hn1 (hx3.cell (xO.cell d0)),cput_far hn2 (hx3.cell (xO.cell g0)),cput_far hn2 (hx3.cell (xO.cell g1)),cput_far hn2 (hx3.cell (xO.cell g2)),cput_far hn2 (hx3.cell (xO.cell g3))⟩)|(go_keep;done))
    (first
      | (go_at_call 185;with_reducible refine (CI.out _ ?_).mono ?_;(next=>exact hxra.trans xO);rintro e w3 ⟨v3,rfl,hcd3,hx3⟩;(obtain⟨dk,dn,dx,dA,dm,dcp,rfl⟩:=hcd3.cells);(have HR3:=Hy (HRa.out.ext (xO.trans hx3)));(have y0:=HR3.out.cell (i:=j * 4) (by omega));(have y1:=HR3.out.cell (i:=j * 4+1) (by omega));(have y2:=HR3.out.cell (i:=j * 4+2) (by omega));(have y3:=HR3.out.cell (i:=j * 4+3) (by omega));(have r0:=HR3.out.free)))
   all_goals
    have hsd:W1.drew.heap.size=W1.heap.size:=rfl
    have hx13:=xO.trans hx3
    have hs3:=hx13.size
    have HB0n:=Hy (Blk.put_far (m:=j * 4) (a0:=.int .i64 dk) (a1:=.string dn) (a2:=.string dx) (a3:=.slice dA dm dcp) hn1 (HB0a.out.ext hx13))
    have HB1n:=Hy (Blk.put_far (m:=j * 4) (a0:=.int .i64 dk) (a1:=.string dn) (a2:=.string dx) (a3:=.slice dA dm dcp) (show w.heap.size+1≠g by omega) (HB1a.out.ext hx13))
    have HPn:=Hy (show 0 < N->g < ((((w3.setCell ⟨g,j * 4,none⟩ (.int .i64 dk)).setCell ⟨g,j * 4+1,none⟩ (.string dn)).setCell ⟨g,j * 4+2,none⟩ (.string dx)).setCell ⟨g,j * 4+3,none⟩ (.slice dA dm dcp)).heap.size∧CRow ((((w3.setCell ⟨g,j * 4,none⟩ (.int .i64 dk)).setCell ⟨g,j * 4+1,none⟩ (.string dn)).setCell ⟨g,j * 4+2,none⟩ (.string dx)).setCell ⟨g,j * 4+3,none⟩ (.slice dA dm dcp)) W0.heap.size g c' N (putC U j (.int .i64 dk) (.string dn) (.string dx) (.slice dA dm dcp)) from
     fun _=>⟨by rw[size_put];omega,HR3.out.put j _ _ _ _⟩)
    have HDn:=Hy (show ∀ q (hq:q < l.length),q < j+1->CdIn (fun b=>g < b) ((((w3.setCell ⟨g,j * 4,none⟩ (.int .i64 dk)).setCell ⟨g,j * 4+1,none⟩ (.string dn)).setCell ⟨g,j * 4+2,none⟩ (.string dx)).setCell ⟨g,j * 4+3,none⟩ (.slice dA dm dcp)) l[q] (.agg #[putC U j (.int .i64 dk) (.string dn) (.string dx) (.slice dA dm dcp) (q * 4),putC U j (.int .i64 dk) (.string dn) (.string dx) (.slice dA dm dcp) (q * 4+1),putC U j (.int .i64 dk) (.string dn) (.string dx) (.slice dA dm dcp) (q * 4+2),putC U j (.int .i64 dk) (.string dn) (.string dx) (.slice dA dm dcp) (q * 4+3)]) from fun q hq hqj=>by
     rcases Nat.lt_or_ge q j with h|h
     ·rw[putC_lo (by omega),putC_lo (by omega),putC_lo (by omega),putC_lo (by omega)]
      exact CdIn.put_far (Nat.lt_irrefl g) ((HDa.out q hq h).ext hx13)
     ·obtain rfl:q=j:=by omega
      obtain⟨p0,p1,p2,p3⟩:=putC_at (U:=U) (k:=q) (a0:=.int .i64 dk) (a1:=.string dn) (a2:=.string dx) (a3:=.slice dA dm dcp)
      rw[p0,p1,p2,p3]
      exact CdIn.put_far (Nat.lt_irrefl g) (hcd3.imp fun b _ h=>by have:W1.drew.heap.size<=b:=h;show g < b;omega))
    have HUn:=Hy (show ∀ i,(j+1) * 4<=i->putC U j (.int .i64 dk) (.string dn) (.string dx) (.slice dA dm dcp) i=U0 i from fun i hi=>by
     rw[putC_lo (by omega)]
     exact HU.out i (by omega))
    have hxn:=ext_put (m:=j * 4) (a0:=.int .i64 dk) (a1:=.string dn) (a2:=.string dx) (a3:=.slice dA dm dcp) (hxra.trans hx13) (show w.heap.size<=g by omega)
    clear z0 z1 z2 z3 y0 y1 y2 y3 r0 d0 g0 g1 g2 g3 hcd3 HR3 HDa HRa HU bC eC lC e1 l1 HB0 HB1 HB0a HB1a
    go_wp2
    go_roundw
    case rel=>exact⟨j+1,_,by omega,by go_num,HB0n,HB1n,HPn,HDn,HUn,hxn⟩
    case measure=>simp[intOf];omega
  ·obtain rfl:j=N:=by omega
   have e1:=HB0.out.cell;have l1:=HB0.out.lt;have e2:=HB1.out.cell;have l2:=HB1.out.lt;have f2:=HB1.out.free
   have hgn:¬ (g < w.heap.size+1):=by omega
   have HFIN:=Hy (show CdAt w.heap.size ((((wo.setCell ⟨w.heap.size+1,0,none⟩ (.int .i64 k)).setCell ⟨w.heap.size+1,0+1,none⟩ (.string n)).setCell ⟨w.heap.size+1,0+2,none⟩ (.string x)).setCell ⟨w.heap.size+1,0+3,none⟩ (.slice A' j c')) (.mk k n x l) (.agg #[.int .i64 k,.string n,.string x,.slice A' l.length c']) from by
    refine CdIn.ofRow (xs:=mapN (j * 4) U) (b:=g) ⟨by rw[mapN_len,HNL.out],fun q hq=>?_⟩ k n x (fun h=>HAg.out (by rw[<-HNL.out];exact h)) (fun _=>by show w.heap.size<=g;omega) (fun i u hu=>?_)
    ·have hq2:q < j:=by rw[<-HNL.out];exact hq
     have e:∀ i,i < j * 4->(mapN (j * 4) U).getD i z0=U i:=fun i hi=>by rw[List.getD_eq_getElem?_getD,mapN_get hi];rfl
     rw[e _ (by omega),e _ (by omega),e _ (by omega),e _ (by omega)]
     exact (CdIn.put_far (g:=w.heap.size+1) (m:=0) hgn (HD.out q hq hq2)).imp fun b _ h=>by have:g < b:=h;show w.heap.size<=b;omega
    ·obtain⟨hi,rfl⟩:=mapN_inv hu
     exact cput_far (show g≠w.heap.size+1 by omega) ((HP.out (by omega)).2.cell hi))
   have hxf:=ext_put (g:=w.heap.size+1) (m:=0) (a0:=.int .i64 k) (a1:=.string n) (a2:=.string x) (a3:=.slice A' j c') hxr (show w.heap.size<=w.heap.size+1 by omega)
   rw[HNL.out] at HFIN
   clear HP HD HU HCH HIH
   go_wp2
   refine bodyPost_ret (v:=.agg #[.int .i64 k,.string n,.string x,.slice A' j c']) (by simp[results,Tryz.results185,go_sem,e2]) rfl ?_
   exact⟨_,rfl,HFIN.out,hxf⟩
theorem cloneCond_any:∀ (m:Nat) (c:Cd),cnt c<=m->m<=2097152->CloneAt c:=by
 intro m
 induction m with
 | zero =>
   intro c hc _
   obtain⟨k,n,x,l⟩:=c
   have hcl:cnt (.mk k n x l)=1+cnts l:=rfl
   omega
 | succ m ih =>
   intro c hc hm
   obtain⟨k,n,x,l⟩:=c
   have hcl:cnt (.mk k n x l)=1+cnts l:=rfl
   have:=cntz_len l
   exact clone_step k n x l (by omega) (fun c hmem=>ih c (by have:=cnts_mem' hmem;omega) (by omega))
end
section
open Go.RowKit
theorem flat_cells {w:World} {b o:Nat} {l:List Sp} (h:SpS w b o l) (j:Nat) (u:Value) (hu:(l.flatMap spC)[j]?=some u):w.cell? ⟨b,o+j,none⟩=some u:=by
 have hlen:(l.flatMap spC).length=l.length * 10:=by
  clear h hu
  induction l with
  | nil=>rfl
  | cons s l ih=>rw[List.flatMap_cons,List.length_append,ih,spC_length,List.length_cons];omega
 have hj:j < l.length * 10:=by
  rw[<-hlen]
  rcases Nat.lt_or_ge j (l.flatMap spC).length with h1|h1
  ·exact h1
  ·rw[List.getElem?_eq_none h1] at hu;cases hu
 have hk:j / 10 < l.length:=by omega
 have hi:j % 10 < 10:=Nat.mod_lt _ (by decide)
 have e:j=j / 10 * 10+j % 10:=by omega
 rw[e,flat_get (f:=spC) (m:=10) spC_length l (j / 10) (j % 10) hk hi] at hu
 rw[e,<-Nat.add_assoc]
 generalize j / 10=k at *
 generalize j % 10=i at *
 match i,hi,hu with
 | 0,_,hu=>injection hu with hu;subst hu;exact h.c0 k hk
 | 1,_,hu=>injection hu with hu;subst hu;exact h.c1 k hk
 | 2,_,hu=>injection hu with hu;subst hu;exact h.c2 k hk
 | 3,_,hu=>injection hu with hu;subst hu;exact h.c3 k hk
 | 4,_,hu=>injection hu with hu;subst hu;exact h.c4 k hk
 | 5,_,hu=>injection hu with hu;subst hu;exact h.c5 k hk
 | 6,_,hu=>injection hu with hu;subst hu;exact h.c6 k hk
 | 7,_,hu=>injection hu with hu;subst hu;exact h.c7 k hk
 | 8,_,hu=>injection hu with hu;subst hu;exact h.c8 k hk
 | 9,_,hu=>injection hu with hu;subst hu;exact h.c9 k hk
theorem flat_one (l:List Sp):∀ u∈l.flatMap spC,u.oneCell'=true:=by
 intro u hu
 obtain⟨s,_,h⟩:=List.mem_flatMap.1 hu
 simp only[spC,List.mem_cons,List.not_mem_nil,or_false] at h
 rcases h with rfl|rfl|rfl|rfl|rfl|rfl|rfl|rfl|rfl|rfl<;>rfl
theorem flat_length (l:List Sp):(l.flatMap spC).length=l.length * 10:=by
 induction l with
 | nil=>rfl
 | cons s l ih=>rw[List.flatMap_cons,List.length_append,ih,spC_length,List.length_cons];omega
set_option maxHeartbeats 2000000 in
set_option maxRecDepth 100000 in
theorem CloneSp_any (l:List Sp) (A:Option Addr) (n c:Nat) (w:World) (hn:l.length=n) (hr:RdP AnyB w A l) (hl:n<=2097152) :
 Calls Tryz.prog 184 #[.slice A n c] w fun e w'=>∃ A' c',e=.returned (.slice A' n c')∧RdP (fun b=>w.heap.size<=b) w' A' l∧Ext w w':=by
 obtain⟨i,hi,hz0,hz1,hz2⟩:=info_parts info_span
 cases A with
 | none =>
   have q0:∀ w,Sem.run Tryz.prog (binOp BinOp.eql 40 (.slice none n c) (.slice none 0 0)) w=.ok (.bool true) w:=fun _=>by kernel_rfl
   obtain rfl:l=[]:=by
    by_cases e:l=[]
    ·exact e
    ·obtain⟨_,_,h,_⟩:=hr e
     cases h
   obtain rfl:n=0:=hn.symm
   go_enter Tryz.func184,Tryz.ntmps184
   go_wp2
   go_ret
   exact⟨none,0,rfl,fun h=>absurd rfl h,Ext.refl _⟩
 | some ad =>
   have q0:∀ w,Sem.run Tryz.prog (binOp BinOp.eql 40 (.slice (some ad) n c) (.slice none 0 0)) w=.ok (.bool false) w:=fun _=>by kernel_rfl
   have hown:=World.ownsRow_lit (base:=w.heap.size) (e:=130) (size:=10) w #[] 0 (Nat.le_refl _) (Nat.zero_le _) rfl
   have hxa:Ext w (w.alloc (.cells #[] 130)):=(Ext.refl w).alloc _
   have hcells:∀ j u,(l.flatMap spC)[j]?=some u->(w.alloc (.cells #[] 130)).cell? (ad.add j)=some u:=fun j u hu=>by
    by_cases e:l=[]
    ·subst e;cases hu
    ·obtain⟨b,o,h,_,hX⟩:=hr e
     injection h with h
     subst h
     rw[Addr.add_lit,hxa.cell (flat_cells hX j u hu)]
   have hlen:(l.flatMap spC).length=n * 10:=by rw[flat_length,hn]
   have hone:=flat_one l
   go_enter Tryz.func184,Tryz.ntmps184
   go_wp2_with (at_builtin;refine wpList_append_own _ rfl _ _ 40 rfl w.heap.size 130 i _ 10 88 Tryz.underlying40 hi hz0 hz1 hz2 rfl (by decide) _ 0 [] rfl hown ad n c (l.flatMap spC) rfl hlen hcells hone (by simp only[maxLen];omega) (by omega) hxa.size ?_;intro v' w' hown' hg _)
   go_ret
   have hown2:w'.ownsRow w.heap.size 130 10 v' n (l.flatMap spC):=by simpa using hown'
   obtain⟨A',c',rfl,hrp⟩:=rdp_own hown2 hn
   exact⟨A',⟨c',rfl⟩,hrp,hxa.grown hown (Nat.le_refl _) hg⟩
end
section
open Go.RowKit
structure Fd where
 ch:ByteArray
 sr:Int
 tm:Int
 os:List Of
def Fd.err (f:Fd):Int:=feErr f.ch f.sr f.tm f.os
structure FdRow (w:World) (b i:Nat) (f:Fd) (A:Option Addr) (c:Nat):Prop where
 r0:w.cell? ⟨b,i,none⟩=some (.string f.ch)
 r1:w.cell? ⟨b,i+1,none⟩=some (.int .i64 f.sr)
 r2:w.cell? ⟨b,i+2,none⟩=some (.int .i64 f.tm)
 r3:w.cell? ⟨b,i+3,none⟩=some (.slice A f.os.length c)
 has:RdO w A f.os
theorem FdRow.ext {w w':World} {b i:Nat} {f:Fd} {A:Option Addr} {c:Nat} (h:FdRow w b i f A c) (hx:Ext w w'):FdRow w' b i f A c :=
 ⟨hx.cell h.r0,hx.cell h.r1,hx.cell h.r2,hx.cell h.r3,h.has.ext hx⟩
structure SmallFd (f:Fd):Prop where
 ch:f.ch.size<=2097152
 len:f.os.length<=2097152
 os:∀ o∈f.os,SmallO o
def FarM (r b:Nat) (v:Value) (k:Nat):Prop:=k≠r∧k≠b∧v.ownBlock≠some k
structure MgS (w:World) (r:Nat) (rc:Array Value) (b:Nat) (ch:ByteArray) (sr tm:Int) (v:Value) (l:List Of):Prop where
 blk:Blk w b 59 #[.string ch,.int .i64 sr,.int .i64 tm,v]
 own:∃ xs,w.ownsRow (b+1) 66 18 v l.length xs∧OffsIn (FarM r b v) w l xs
 res:Blk w r 59 rc
 lt:r < b
theorem ownBlock_slice {g n c k:Nat}:(Value.slice (some ⟨g,0,none⟩) n c).ownBlock=some k↔g=k:=by
 unfold Value.ownBlock
 constructor
 ·intro h;injection h
 ·intro h;rw[h]
theorem MgS.slice {w:World} {r b:Nat} {rc:Array Value} {ch:ByteArray} {sr tm:Int} {v:Value} {l:List Of} (h:MgS w r rc b ch sr tm v l):∃ A c,v=.slice A l.length c∧RdO w A l∧l.length<=c:=by
 obtain⟨xs,ho,hi⟩:=h.own
 rcases Nat.eq_zero_or_pos l.length with h0|h0
 ·have hl:l=[]:=List.eq_nil_of_length_eq_zero h0
  rcases ho.2 with ⟨rfl,h2⟩|⟨g,cap,cur,rfl,_,_,hnc,_⟩
  ·exact⟨none,0,by rw[h0],fun h=>absurd hl h,by omega⟩
  ·exact⟨_,cap,rfl,fun h=>absurd hl h,hnc⟩
 ·obtain⟨g,c,rfl,hg,hB,hnc,hcell⟩:=own_form ho h0
  exact⟨_,c,rfl,hi.rd hcell,hnc⟩
theorem MgS.ext {w w':World} {r b:Nat} {rc:Array Value} {ch:ByteArray} {sr tm:Int} {v:Value} {l:List Of} (h:MgS w r rc b ch sr tm v l) (hx:Ext w w'):MgS w' r rc b ch sr tm v l:=by
 obtain⟨xs,ho,hi⟩:=h.own
 exact⟨h.blk.ext hx,⟨xs,own_ext ho hx,hi.keep (fun _ _ h=>h) (fun _ _ _ _ hc=>hx.cell hc)⟩,h.res.ext hx,h.lt⟩
theorem MgS.ins {w w':World} {r b:Nat} {rc:Array Value} {ch:ByteArray} {sr tm:Int} {v v':Value} {l:List Of} {xs:List Value} {o:Of} {A:Option Addr} {c:Nat} {k:Int} {n x:ByteArray} {A2:Option Addr} {m c2:Nat} (hb:Blk w b 59 #[.string ch,.int .i64 sr,.int .i64 tm,v]) (hr:Blk w r 59 rc) (hlt:r < b)
 (ho:w.ownsRow (b+1) 66 18 v l.length xs) (hi:OffsIn (FarM r b v) w l xs) (hof:OfIn (FarM r b v) w o A k n x A2 m c2) {i:Nat} (hil:i<=l.length)
 (ho':w'.ownsRow (b+1) 66 18 v' (l.length+1) (xs.take (i * 18)++ofCs o A c k n x A2 m c2++xs.drop (i * 18))) (hg:w.grownBy w' v.ownBlock) (hnew:v'.ownBlock=v.ownBlock∨∀ k,v'.ownBlock=some k->w.heap.size<=k) :
 MgS (w'.setCell ⟨b,3,none⟩ v') r rc b ch sr tm v' (l.take i++o::l.drop i):=by
 have hbo:some b≠v.ownBlock:=fun e=>by
  rcases ho.2 with ⟨rfl,_⟩|⟨g,cap,cur,rfl,hB,_⟩
  ·cases e
  ·have:=ownBlock_slice.1 e.symm
   omega
 have hro:some r≠v.ownBlock:=fun e=>by
  rcases ho.2 with ⟨rfl,_⟩|⟨g,cap,cur,rfl,hB,_⟩
  ·cases e
  ·have:=ownBlock_slice.1 e.symm
   omega
 have hlen:(l.take i++o::l.drop i).length=l.length+1:=by simp;omega
 refine⟨(hb.grownR hg hbo).set 3 v',⟨_,by rw[hlen];exact ownsRow_setCell_below ho' (Nat.lt_succ_self _) _,?_⟩,(hr.grownR hg hro).far (by show r≠b;exact Nat.ne_of_lt hlt) _,hlt⟩
 have key:=hi.ins (c:=c) hof i hil
 refine OffsIn.keep (P:=FarM r b v) (fun j hj hP=>⟨hP.1,hP.2.1,?_⟩) (fun j p u hP hc=>?_) key
 ·refine cell_set_far (by show j≠b;exact hP.2.1) ?_
  have hjl:=lt_of_cell hc
  have hbk:=hg.block j hjl (fun e=>hP.2.2 e.symm)
  rw[<-hc]
  unfold World.cell?
  simp only[hbk]
 ·intro e
  rcases hnew with h|h
  ·exact hP.2.2 (h ▸ e)
  ·have:=h j e;omega
theorem MgS.grow {w0 w w':World} {r b:Nat} {rc:Array Value} {ch:ByteArray} {sr tm:Int} {v:Value} {l:List Of} (h:MgS w r rc b ch sr tm v l) (hb:w0.heap.size<=b) (hx:Ext w0 w) (hg:w.grownBy w' v.ownBlock):Ext w0 w':=by
 obtain⟨xs,ho,_⟩:=h.own
 exact hx.grown ho (by omega) hg
theorem check_cntM {c:Cd} (h:checkC c=0):cnt c<=100:=by
 rcases Nat.lt_or_ge 100 (cnt c) with h1|h1
 ·unfold checkC at h;rw[if_pos h1] at h;cases h
 ·exact h1
theorem firstI_allM:∀ {l:List Int},firstI l=0->∀ x∈l,x=0
 | [],_,_,hx=>by cases hx
 | a::l,h,x,hx=>by
   unfold firstI at h
   by_cases ha:a=0
   ·rw[if_pos ha] at h
    rcases List.mem_cons.1 hx with rfl|hx
    ·exact ha
    ·exact firstI_allM h x hx
   ·rw[if_neg ha] at h;exact absurd h ha
theorem fd_off {f:Fd} (h:f.err=0):∀ o∈f.os,ofErr o=0:=fun o ho=>by
 have h1:=firstI_allM (show firstI (feHead f.ch f.sr f.tm f.os.length::ofErrs f.os)=0 from h)
 obtain⟨k,hk,rfl⟩:=List.mem_iff_getElem.1 ho
 exact feErr_seen hk (j:=k+1) (fun x hx=>h1 x (List.mem_cons_of_mem _ (List.mem_of_mem_take hx))) (Nat.lt_succ_self _)
structure FineO (o:Of):Prop where
 small:SmallO o
 err:ofErr o=0
theorem FineO.cnt {o:Of} (h:FineO o):cnt o.wh<=100:=check_cntM (ofErr_parts h.err).2.2.2.2.1
theorem FineO.ver {o:Of} (h:FineO o):o.vv.err=0:=(ofErr_parts h.err).2.1
end
section
open Go.ChangeShapes Go.WideShapes Go.ChangeAt Go.RowKit Go.WideElems Go.Joins
structure FdQ where
 ch:ByteArray
 sr:Int
 tm:Int
 os:List (Of × Nat)
def FdQ.fd (q:FdQ):Fd:=⟨q.ch,q.sr,q.tm,q.os.map Prod.fst⟩
instance inhFQ:Inhabited FdQ:=⟨⟨⟨#[]⟩,0,0,[]⟩⟩
def fdBk (q:FdQ):Nat:=q.ch.size+(q.os.map fun x=>ofBk x.1+x.2).sum+4
def BulkOs (l:List (Of × Nat)):Prop:=∀ x∈l,cnt x.1.wh<=x.2∧StrC x.2 x.1.wh
def FdCells (W:World) (q:FdQ) (cs:List Value):Prop:=∃ A c,cs=[.string q.ch,.int .i64 q.sr,.int .i64 q.tm,.slice A q.os.length c]∧RdO W A (q.os.map Prod.fst)∧BulkOs q.os
theorem rdO_row {W:World} {A:Option Addr} {l:List (Of × Nat)} (h:RowOf OfCells 18 W A l):RdO W A (l.map Prod.fst)∧BulkOs l:=by
 constructor
 ·intro hne
  have hne2:l≠[]:=fun e=>hne (by rw[e];rfl)
  obtain⟨b,o,rfl,hc⟩:=h hne2
  refine⟨b,o,rfl,fun k hk=>?_⟩
  rw[List.length_map] at hk
  obtain⟨ecs,⟨⟨A1,c1,kk,n,x,A2,m,c2,rfl,hin⟩,_⟩,_,hj⟩:=hc k hk
  rw[List.getElem_map]
  exact⟨A1,c1,kk,n,x,A2,m,c2,hj 0 (by decide),hj 1 (by decide),hj 2 (by decide),hj 3 (by decide),hj 4 (by decide),hj 5 (by decide),hj 6 (by decide),hj 7 (by decide),hj 8 (by decide),hj 9 (by decide),hj 10 (by decide),hj 11 (by decide),hj 12 (by decide),hj 13 (by decide),hj 14 (by decide),hj 15 (by decide),hj 16 (by decide),hj 17 (by decide),hin⟩
 ·intro x hx
  have hne2:l≠[]:=fun e=>by rw[e] at hx;cases hx
  obtain⟨b,o,rfl,hc⟩:=h hne2
  obtain⟨k,hk,rfl⟩:=List.mem_iff_getElem.1 hx
  obtain⟨ecs,⟨_,h1,h2⟩,_⟩:=hc k hk
  exact⟨h1,h2⟩
set_option maxRecDepth 100000 in
theorem opens_feed:Opens 59 FdCells fdBk:=fun H enc W fuel cs x h=>by
 obtain⟨xs,n,_,rfl,hl,hlen,hf⟩:=DataW.trod_struct Tryz.underlying59 h
 have hc:Tryz.prog.cellsOf 59=4:=by kernel_rfl
 rw[hc] at hl
 match cs,hl,xs,hlen with
 | [c0,c1,c2,c3],_,[y0,y1,y2,y3],_ =>
   have h0:=hf 0 _ rfl
   replace h0:DataW.trod enc Tryz.prog W 0 (fun _=>true) true n 9 (([c0,c1,c2,c3].drop 0).take (Tryz.prog.cellsOf 9))=some y0:=h0
   rw[show Tryz.prog.cellsOf 9=1 by kernel_rfl] at h0
   obtain⟨a,e0,b0⟩:=opens_string Tryz.underlying9 H enc W n _ _ h0
   have h1:=hf 1 _ rfl
   replace h1:DataW.trod enc Tryz.prog W 0 (fun _=>true) true n 3 (([c0,c1,c2,c3].drop 1).take (Tryz.prog.cellsOf 3))=some y1:=h1
   rw[show Tryz.prog.cellsOf 3=1 by kernel_rfl] at h1
   obtain⟨sr,e1,b1⟩:=opens_int Tryz.underlying3 H enc W n _ _ h1
   have h2:=hf 2 _ rfl
   replace h2:DataW.trod enc Tryz.prog W 0 (fun _=>true) true n 3 (([c0,c1,c2,c3].drop 2).take (Tryz.prog.cellsOf 3))=some y2:=h2
   rw[show Tryz.prog.cellsOf 3=1 by kernel_rfl] at h2
   obtain⟨tm,e2,b2⟩:=opens_int Tryz.underlying3 H enc W n _ _ h2
   have h3:=hf 3 _ rfl
   replace h3:DataW.trod enc Tryz.prog W 0 (fun _=>true) true n 57 (([c0,c1,c2,c3].drop 3).take (Tryz.prog.cellsOf 57))=some y3:=h3
   rw[show Tryz.prog.cellsOf 57=1 by kernel_rfl] at h3
   obtain⟨os,⟨A,c,e3,hr⟩,b3⟩:=opens_slice (sz:=18) Tryz.underlying57 (by kernel_rfl) (by decide) opens_offer H enc W n _ _ h3
   simp at e0 e1 e2 e3
   subst e0
   subst e1
   subst e2
   subst e3
   obtain⟨h1,h2⟩:=rdO_row hr
   refine⟨⟨a,sr,tm,os⟩,⟨A,c,rfl,h1,h2⟩,?_⟩
   unfold fdBk
   dsimp only at b0 b1 b2 b3 ⊢
   simp only[List.map_cons,List.map_nil,Rows.uptoBulk,Rows.uptoBulkAll]
   omega
theorem small_feed {q:FdQ} {n:Nat} (hn:n<=1048576) (h:fdBk q<=n) (hb:BulkOs q.os):SmallFd q.fd:=by
 unfold fdBk at h
 have k2:=sum_len (bk:=fun x:Of × Nat=>ofBk x.1+x.2) (c:=1) (fun x=>by unfold ofBk;omega) q.os
 refine⟨?_,?_,fun o ho=>?_⟩
 ·show q.ch.size<=_;omega
 ·show (q.os.map Prod.fst).length<=_
  rw[List.length_map];omega
 ·obtain⟨x,hx,rfl⟩:=List.mem_map.1 (show o∈q.os.map Prod.fst from ho)
  have k4:=sum_mem (bk:=fun x:Of × Nat=>ofBk x.1+x.2) hx
  obtain⟨h1,h2⟩:=hb x hx
  exact small_offer (n:=n) (m:=x.2) hn (by omega) (by omega) h1 h2
end
section
open Go.RowKit
structure Ins where
 name:ByteArray
 vv:V4
structure Pin where
 name:ByteArray
 fr:List Sp
structure Mac where
 name:ByteArray
 inst:List Ins
 facts:List Se
 sets:List Se
 pins:List Pin
def zeroI:Ins:=⟨⟨#[]⟩,⟨0,0,0,⟨#[]⟩⟩⟩
def zeroN:Pin:=⟨⟨#[]⟩,[]⟩
def nmErr (n:ByteArray):Int:=if nameL (bs n)=true then 0 else 5
def insGap (p x:ByteArray):Int:=if (Op.bytesLess x.toList p.toList||x.toList==p.toList)=true then 7 else 0
def insAt (l:List Ins) (i:Nat):Int:=firstI [nmErr (l.getD i zeroI).name,(l.getD i zeroI).vv.err,if i=0 then 0 else insGap (l.getD (i - 1) zeroI).name (l.getD i zeroI).name]
def insErrs (l:List Ins):List Int:=(List.range l.length).map (insAt l)
def pinTwice (l:List Pin) (i:Nat):Bool:=(l.take i).any fun p=>p.name.toList==(l.getD i zeroN).name.toList
def pinAt (l:List Pin) (i:Nat):Int:=firstI [nmErr (l.getD i zeroN).name,if pinTwice l i=true then 6 else 0,rngErr (l.getD i zeroN).fr]
def pinErrs (l:List Pin):List Int:=(List.range l.length).map (pinAt l)
def insErr (l:List Ins):Int:=firstI (insErrs l)
def pinErr (l:List Pin):Int:=firstI (pinErrs l)
def macErr (m:Mac):Int:=firstI [nmErr m.name,insErr m.inst,seErr nameL m.facts,seErr pathL m.sets,pinErr m.pins]
def matErr (m:Mac) (t:Int):Int:=firstI [macErr m,timeErr t]
theorem insErrs_length (l:List Ins):(insErrs l).length=l.length:=by simp[insErrs]
theorem insErrs_get (l:List Ins) (k:Nat) (h:k < (insErrs l).length):(insErrs l)[k]=insAt l k:=by simp[insErrs]
theorem pinErrs_length (l:List Pin):(pinErrs l).length=l.length:=by simp[pinErrs]
theorem pinErrs_get (l:List Pin) (k:Nat) (h:k < (pinErrs l).length):(pinErrs l)[k]=pinAt l k:=by simp[pinErrs]
theorem insErr_at {l:List Ins} {k:Nat} (h:k < l.length) (h0:∀ x∈(insErrs l).take k,x=0) (h1:¬ insAt l k=0):insErr l=insAt l k:=by
 have hk:k < (insErrs l).length:=by rw[insErrs_length];exact h
 unfold insErr
 rw[firstI_at hk h0 (by rw[insErrs_get];exact h1),insErrs_get]
theorem insErr_next {l:List Ins} {k:Nat} (h:k < l.length) (h0:∀ x∈(insErrs l).take k,x=0) (h1:insAt l k=0):∀ x∈(insErrs l).take (k+1),x=0:=by
 have hk:k < (insErrs l).length:=by rw[insErrs_length];exact h
 exact take_zero_succ hk h0 (by rw[insErrs_get];exact h1)
theorem insErr_all {l:List Ins} (h0:∀ x∈(insErrs l).take l.length,x=0):insErr l=0:=by
 rw[List.take_of_length_le (by rw[insErrs_length];exact Nat.le_refl _)] at h0
 exact firstI_zero h0
theorem pinErr_at {l:List Pin} {k:Nat} (h:k < l.length) (h0:∀ x∈(pinErrs l).take k,x=0) (h1:¬ pinAt l k=0):pinErr l=pinAt l k:=by
 have hk:k < (pinErrs l).length:=by rw[pinErrs_length];exact h
 unfold pinErr
 rw[firstI_at hk h0 (by rw[pinErrs_get];exact h1),pinErrs_get]
theorem pinErr_next {l:List Pin} {k:Nat} (h:k < l.length) (h0:∀ x∈(pinErrs l).take k,x=0) (h1:pinAt l k=0):∀ x∈(pinErrs l).take (k+1),x=0:=by
 have hk:k < (pinErrs l).length:=by rw[pinErrs_length];exact h
 exact take_zero_succ hk h0 (by rw[pinErrs_get];exact h1)
theorem pinErr_all {l:List Pin} (h0:∀ x∈(pinErrs l).take l.length,x=0):pinErr l=0:=by
 rw[List.take_of_length_le (by rw[pinErrs_length];exact Nat.le_refl _)] at h0
 exact firstI_zero h0
theorem firstI_allO:∀ {l:List Int},firstI l=0->∀ x∈l,x=0
 | [],_,_,hx=>by cases hx
 | a::l,h,x,hx=>by
   unfold firstI at h
   by_cases ha:a=0
   ·rw[if_pos ha] at h
    rcases List.mem_cons.1 hx with rfl|hx
    ·exact ha
    ·exact firstI_allO h x hx
   ·rw[if_neg ha] at h;exact absurd h ha
theorem first3 {q:Bool} {e g:Int}:firstI [if q=true then 0 else 5,e,g]=if q=false then 5 else if e=0 then g else e:=by
 cases q
 ·simp[firstI]
 ·by_cases h:e=0
  ·simp[firstI,h]
   intro h2;exact h2.symm
  ·simp[firstI,h]
theorem firstI_take {l:List Int} {k:Nat} (h:k < l.length):firstI (l.take (k+1))=firstI [firstI (l.take k),l[k]]:=by
 rw[List.take_succ_eq_append_getElem h]
 generalize l.take k=a
 generalize l[k]=x
 induction a with
 | nil=>simp[firstI]
 | cons b a ih =>
   by_cases h:b=0
   ·rw[List.cons_append,firstI,if_pos h,ih]
    have:firstI (b::a)=firstI a:=by rw[firstI,if_pos h]
    rw[this]
   ·have:firstI (b::a)=b:=by rw[firstI,if_neg h]
    rw[List.cons_append,firstI,if_neg h,this]
    simp[firstI,h]
def wasL (l:List Ins) (n:Str):Option V4:=(l.find? fun x=>x.name.toList==n).map (·.vv)
def barL (l:List Pin) (n:Str) (v:V4):Bool:=l.any fun p=>p.name.toList==n&&!hasL p.fr v
def frL (o:Of) (was:Option V4):Bool:=match was with|some v=>hasL o.fr v|none=>o.nw
def wayL (o:Of) (v:V4):Int:=orderL v.a1 v.a2 v.a3 (bs v.a) o.vv.a1 o.vv.a2 o.vv.a3 (bs o.vv.a)
def oldL (o:Of) (was:Option V4):Bool:=match was with|some v=>decide (0<=wayL o v)&&!(decide (0 < wayL o v)&&o.back)|none=>false
def whyL (h e f od hs b s:Bool):Int:=if h=true then 1 else if e=true then 2 else if f=false then 3 else if od=true then 4 else if hs=false then 5 else if b=true then 6 else if s=true then 7 else 0
def fitL (o:Of) (was:Option V4) (m:Mac) (hold:Bool) (t:Int):Int:=whyL o.hold (decide (t < o.bg)) (frL o was) (oldL o was) hold (barL m.pins o.name.toList o.vv&&!o.urg) (decide (shareL o t<=placeV m.name o.name o.vv))
end
section
open Go.RowKit
theorem load_cellsO {w:World} {b i:Nat} {T:TypeId} {z:Nat} (h1:∀ w,(isAgg T).run Tryz.prog w=.ok true w) (h2:∀ w,(sizeOf T).run Tryz.prog w=.ok z w) (cs:List Value) (hl:cs.length=z) (h:∀ j v,cs[j]?=some v->w.cell? ⟨b,i+j,none⟩=some v):(loadVar T ⟨b,i,none⟩).run Tryz.prog w=.ok (.agg cs.toArray) w:=by
 have h3:(loadCells ⟨b,i,none⟩ z).run Tryz.prog w=.ok cs.toArray w:=by
  rw[<-hl]
  refine run_loadCells_list w ⟨b,i,none⟩ cs fun j v hj=>?_
  have hadd:(⟨b,i,none⟩:Addr).add j=⟨b,i+j,none⟩:=by unfold Addr.add;split<;>simp_all
  rw[hadd]
  exact h j v hj
 simp only[loadVar,Sem.run_bind,h1,Result.andThen,if_true,h2,h3,Sem.run_pure]
abbrev insC (x:Ins) (A:Option Addr) (m c:Nat) (b:Bool):List Value:=[.string x.name,.int .i64 x.vv.a1,.int .i64 x.vv.a2,.int .i64 x.vv.a3,.string x.vv.a,.slice A m c,.bool b]
abbrev insV (x:Ins) (A:Option Addr) (m c:Nat) (b:Bool):Value:=.agg #[.string x.name,.int .i64 x.vv.a1,.int .i64 x.vv.a2,.int .i64 x.vv.a3,.string x.vv.a,.slice A m c,.bool b]
def InsAt (w:World) (g i:Nat) (x:Ins) (A:Option Addr) (m c:Nat) (b:Bool):Prop:=∀ j v,(insC x A m c b)[j]?=some v->w.cell? ⟨g,i+j,none⟩=some v
theorem InsAt.ext {w w':World} {g i:Nat} {x:Ins} {A:Option Addr} {m c:Nat} {b:Bool} (h:InsAt w g i x A m c b) (hx:Ext w w'):InsAt w' g i x A m c b:=fun j v hj=>hx.cell (h j v hj)
theorem InsAt.load {w:World} {g i:Nat} {x:Ins} {A:Option Addr} {m c:Nat} {b:Bool} (h:InsAt w g i x A m c b):(loadVar 178 ⟨g,i,none⟩).run Tryz.prog w=.ok (insV x A m c b) w :=
 load_cellsO (z:=7) (fun _=>by kernel_rfl) (fun _=>by kernel_rfl) (insC x A m c b) rfl h
theorem InsAt.ver {w:World} {g i:Nat} {x:Ins} {A:Option Addr} {m c:Nat} {b:Bool} (h:InsAt w g i x A m c b):(loadVar 23 ⟨g,i+1,none⟩).run Tryz.prog w=.ok (.agg #[.int .i64 x.vv.a1,.int .i64 x.vv.a2,.int .i64 x.vv.a3,.string x.vv.a]) w :=
 load_cellsO (z:=4) (fun _=>by kernel_rfl) (fun _=>by kernel_rfl) [.int .i64 x.vv.a1,.int .i64 x.vv.a2,.int .i64 x.vv.a3,.string x.vv.a] rfl fun j v hj=>by
  rw[Nat.add_assoc,Nat.add_comm 1 j]
  refine h (j+1) v ?_
  match j,hj with
  | 0,hj=>exact hj
  | 1,hj=>exact hj
  | 2,hj=>exact hj
  | 3,hj=>exact hj
  | j+4,hj=>simp at hj
def RdIns (w:World) (A:Option Addr) (l:List Ins):Prop:=l≠[]->∃ g i,A=some ⟨g,i,none⟩∧∀ k (h:k < l.length),∃ A1 m c b,InsAt w g (i+k * 7) l[k] A1 m c b
theorem RdIns.ext {w w':World} {A:Option Addr} {l:List Ins} (h:RdIns w A l) (hx:Ext w w'):RdIns w' A l:=fun hn=>by
 obtain⟨g,i,e,k⟩:=h hn
 exact⟨g,i,e,fun j hj=>by obtain⟨A1,m,c,b,h⟩:=k j hj;exact⟨A1,m,c,b,h.ext hx⟩⟩
def SmallI (l:List Ins):Prop:=∀ x∈l,x.name.size<=2097152∧x.vv.a.size<=2097152
abbrev pinC (x:Pin) (A:Option Addr) (c:Nat):List Value:=[.string x.name,.slice A x.fr.length c]
abbrev pinV (x:Pin) (A:Option Addr) (c:Nat):Value:=.agg #[.string x.name,.slice A x.fr.length c]
structure PinAt (w:World) (g i:Nat) (x:Pin) (A:Option Addr) (c:Nat):Prop where
 row:∀ j v,(pinC x A c)[j]?=some v->w.cell? ⟨g,i+j,none⟩=some v
 has:RdS w A x.fr
theorem PinAt.ext {w w':World} {g i:Nat} {x:Pin} {A:Option Addr} {c:Nat} (h:PinAt w g i x A c) (hx:Ext w w'):PinAt w' g i x A c:=⟨fun j v hj=>hx.cell (h.row j v hj),h.has.ext hx⟩
theorem PinAt.load {w:World} {g i:Nat} {x:Pin} {A:Option Addr} {c:Nat} (h:PinAt w g i x A c):(loadVar 181 ⟨g,i,none⟩).run Tryz.prog w=.ok (pinV x A c) w :=
 load_cellsO (z:=2) (fun _=>by kernel_rfl) (fun _=>by kernel_rfl) (pinC x A c) rfl h.row
theorem PinAt.rng {w:World} {g i:Nat} {x:Pin} {A:Option Addr} {c:Nat} (h:PinAt w g i x A c):(loadVar 42 ⟨g,i+1,none⟩).run Tryz.prog w=.ok (.agg #[.slice A x.fr.length c]) w :=
 load_cellsO (z:=1) (fun _=>by kernel_rfl) (fun _=>by kernel_rfl) [.slice A x.fr.length c] rfl fun j v hj=>by
  rw[Nat.add_assoc,Nat.add_comm 1 j]
  refine h.row (j+1) v ?_
  match j,hj with
  | 0,hj=>exact hj
  | j+1,hj=>simp at hj
def RdPin (w:World) (A:Option Addr) (l:List Pin):Prop:=l≠[]->∃ g i,A=some ⟨g,i,none⟩∧∀ k (h:k < l.length),∃ A1 c,PinAt w g (i+k * 2) l[k] A1 c
theorem RdPin.ext {w w':World} {A:Option Addr} {l:List Pin} (h:RdPin w A l) (hx:Ext w w'):RdPin w' A l:=fun hn=>by
 obtain⟨g,i,e,k⟩:=h hn
 exact⟨g,i,e,fun j hj=>by obtain⟨A1,c,h⟩:=k j hj;exact⟨A1,c,h.ext hx⟩⟩
structure SmallP (l:List Pin):Prop where
 each:∀ x∈l,x.name.size<=2097152∧SmallS x.fr∧x.fr.length<=2097152
set_option maxHeartbeats 4000000 in
set_option maxRecDepth 100000 in
theorem IndexFuncIn_any (A:Option Addr) (n c b o:Nat) (f:FuncId) (cp:Array Value) (p:Nat->Bool) (w:World) (hA:0 < n->A=some ⟨b,o,none⟩) (hl:n<=2097152)
 (hen:∀ xs w,Sem.run Tryz.prog (callFunc f xs) w=.ok (.enter f xs) w)
 (H:∀ k,k < n->∃ v,(∀ W,Ext w W->(loadVar 178 ⟨b,o+k * 7,none⟩).run Tryz.prog W=.ok v W)∧∀ W,Ext w W->Calls Tryz.prog f (#[v]++cp) W fun e w'=>e=.returned (.bool (p k))∧Ext W w') :
 Calls Tryz.prog 133 #[.slice A n c,.func (.func f) #[] cp] w fun e w'=>e=.returned (.int .i64 (findF n p))∧Ext w w':=by
 have HH:=Hy H
 have HF:=Hy (fun k (hk:k < n) h0 h=>findF_at (p:=p) hk h0 h)
 have HN:=Hy (fun h0=>findF_none (n:=n) (p:=p) h0)
 generalize findF n p=Z at *
 clear H
 go_enter Tryz.func133,Tryz.ntmps133
 go_wp2
 go_loopw [8] (fun i wr=>∃ k:Nat,k<=n∧i=.int .i64 k∧Hid (∀ j,j < k->p j=false)∧Ext w wr) (fun i _=>n - (intOf i).toNat)
 case atStart=>exact⟨0,Nat.zero_le _,rfl,fun j h=>absurd h (Nat.not_lt_zero _),Ext.refl _⟩
 case round =>
  obtain⟨k,hk,rfl,HALL,hxr⟩:=hrel
  by_cases hlt:k < n
  ·obtain rfl:=hA (by omega)
   obtain⟨v,HL0,HC0⟩:=HH.out k hlt
   have HL:=HL0 _ hxr
   have HC:=Hy (HC0 _ hxr)
   clear HL0 HC0
   have HB:=Hy (show p k=true->Z=k from HF.out k hlt HALL.out)
   have HX:=Hy (show p k=false->∀ j,j < k+1->p j=false from allF_next HALL.out)
   generalize p k=r at *
   go_wp2_with (refine wpList_load_at rfl _ _ rfl _ rfl _ HL ?_)
   refine HC.out.mono ?_
   rintro e w1 ⟨rfl,hx1⟩
   clear HL
   cases r
   ·have H1:=Hy (HX.out rfl)
    go_wp2
    go_roundw
    case rel=>exact⟨k+1,by omega,by go_num,H1.out,hxr.trans hx1⟩
    case measure=>simp[intOf];omega
   ·have H1:=Hy (HB.out rfl)
    go_wp2
    go_ret
    exact⟨ret_int H1.out.symm,hxr.trans hx1⟩
  ·obtain rfl:k=n:=by omega
   have H1:=Hy (HN.out HALL.out)
   go_wp2
   go_ret
   exact⟨ret_int H1.out.symm,hxr⟩
set_option maxHeartbeats 4000000 in
set_option maxRecDepth 100000 in
theorem IndexFuncPn_any (A:Option Addr) (n c b o:Nat) (f:FuncId) (cp:Array Value) (p:Nat->Bool) (w:World) (hA:0 < n->A=some ⟨b,o,none⟩) (hl:n<=2097152)
 (hen:∀ xs w,Sem.run Tryz.prog (callFunc f xs) w=.ok (.enter f xs) w)
 (H:∀ k,k < n->∃ v,(∀ W,Ext w W->(loadVar 181 ⟨b,o+k * 2,none⟩).run Tryz.prog W=.ok v W)∧∀ W,Ext w W->Calls Tryz.prog f (#[v]++cp) W fun e w'=>e=.returned (.bool (p k))∧Ext W w') :
 Calls Tryz.prog 200 #[.slice A n c,.func (.func f) #[] cp] w fun e w'=>e=.returned (.int .i64 (findF n p))∧Ext w w':=by
 have HH:=Hy H
 have HF:=Hy (fun k (hk:k < n) h0 h=>findF_at (p:=p) hk h0 h)
 have HN:=Hy (fun h0=>findF_none (n:=n) (p:=p) h0)
 generalize findF n p=Z at *
 clear H
 go_enter Tryz.func200,Tryz.ntmps200
 go_wp2
 go_loopw [8] (fun i wr=>∃ k:Nat,k<=n∧i=.int .i64 k∧Hid (∀ j,j < k->p j=false)∧Ext w wr) (fun i _=>n - (intOf i).toNat)
 case atStart=>exact⟨0,Nat.zero_le _,rfl,fun j h=>absurd h (Nat.not_lt_zero _),Ext.refl _⟩
 case round =>
  obtain⟨k,hk,rfl,HALL,hxr⟩:=hrel
  by_cases hlt:k < n
  ·obtain rfl:=hA (by omega)
   obtain⟨v,HL0,HC0⟩:=HH.out k hlt
   have HL:=HL0 _ hxr
   have HC:=Hy (HC0 _ hxr)
   clear HL0 HC0
   have HB:=Hy (show p k=true->Z=k from HF.out k hlt HALL.out)
   have HX:=Hy (show p k=false->∀ j,j < k+1->p j=false from allF_next HALL.out)
   generalize p k=r at *
   go_wp2_with (refine wpList_load_at rfl _ _ rfl _ rfl _ HL ?_)
   refine HC.out.mono ?_
   rintro e w1 ⟨rfl,hx1⟩
   clear HL
   cases r
   ·have H1:=Hy (HX.out rfl)
    go_wp2
    go_roundw
    case rel=>exact⟨k+1,by omega,by go_num,H1.out,hxr.trans hx1⟩
    case measure=>simp[intOf];omega
   ·have H1:=Hy (HB.out rfl)
    go_wp2
    go_ret
    exact⟨ret_int H1.out.symm,hxr.trans hx1⟩
  ·obtain rfl:k=n:=by omega
   have H1:=Hy (HN.out HALL.out)
   go_wp2
   go_ret
   exact⟨ret_int H1.out.symm,hxr⟩
set_option maxHeartbeats 1000000 in
theorem ContainsFuncPn_any (A:Option Addr) (n c b o:Nat) (f:FuncId) (cp:Array Value) (p:Nat->Bool) (w:World) (hA:0 < n->A=some ⟨b,o,none⟩) (hl:n<=2097152)
 (hen:∀ xs w,Sem.run Tryz.prog (callFunc f xs) w=.ok (.enter f xs) w)
 (H:∀ k,k < n->∃ v,(∀ W,Ext w W->(loadVar 181 ⟨b,o+k * 2,none⟩).run Tryz.prog W=.ok v W)∧∀ W,Ext w W->Calls Tryz.prog f (#[v]++cp) W fun e w'=>e=.returned (.bool (p k))∧Ext W w') :
 Calls Tryz.prog 129 #[.slice A n c,.func (.func f) #[] cp] w fun e w'=>e=.returned (.bool (anyF n p))∧Ext w w':=by
 have CI:=Hy (IndexFuncPn_any A n c b o f cp p w hA hl hen H)
 have HZ:=Hy (findF_any n p)
 generalize findF n p=z at *
 generalize anyF n p=r at *
 clear hen H hA
 go_enter Tryz.func129,Tryz.ntmps129
 go_wp2_with fail
 refine CI.out.mono ?_
 rintro e w1 ⟨rfl,hx1⟩
 go_wp2
 go_ret
 exact⟨ret_bool (by rw[<-HZ.out]),hx1⟩
set_option maxRecDepth 100000 in
theorem fits1_any (x:Ins) (A:Option Addr) (m c:Nat) (b:Bool) (g:Nat) (nm:ByteArray) (w:World) (hc:w.cell? ⟨g,0,none⟩=some (.string nm)) :
 Calls Tryz.prog 203 #[insV x A m c b,.pointer (some ⟨g,0,none⟩)] w fun e w'=>e=.returned (.bool (x.name.toList==nm.toList))∧Ext w w':=by
 obtain⟨xn,⟨v1,v2,v3,va⟩⟩:=x
 dsimp only[insV]
 have b1:=Blk.new w 178 #[.string xn,.int .i64 v1,.int .i64 v2,.int .i64 v3,.string va,.slice A m c,.bool b]
 have hx0:Ext w (w.alloc (.cells #[.string xn,.int .i64 v1,.int .i64 v2,.int .i64 v3,.string va,.slice A m c,.bool b] 178)):=(Ext.refl w).alloc _
 have hlc:=lt_of_cell hc
 have e1:=b1.cell;have l1:=b1.lt
 have ec:=hx0.cell hc
 go_enter Tryz.func203,Tryz.ntmps203
 go_wp2
 go_ret
 exact⟨rfl,hx0⟩
set_option maxRecDepth 100000 in
theorem fits2_any (x:Pin) (A:Option Addr) (c:Nat) (g:Nat) (nm:ByteArray) (w:World) (hc:w.cell? ⟨g,0,none⟩=some (.string nm)) :
 Calls Tryz.prog 204 #[pinV x A c,.pointer (some ⟨g,0,none⟩)] w fun e w'=>e=.returned (.bool (x.name.toList==nm.toList))∧Ext w w':=by
 obtain⟨xn,xf⟩:=x
 dsimp only[pinV]
 generalize xf.length=xl at *
 have b1:=Blk.new w 181 #[.string xn,.slice A xl c]
 have hx0:Ext w (w.alloc (.cells #[.string xn,.slice A xl c] 181)):=(Ext.refl w).alloc _
 have hlc:=lt_of_cell hc
 have e1:=b1.cell;have l1:=b1.lt
 have ec:=hx0.cell hc
 go_enter Tryz.func204,Tryz.ntmps204
 go_wp2
 go_ret
 exact⟨rfl,hx0⟩
set_option maxRecDepth 100000 in
theorem mf1_any (x:Pin) (A:Option Addr) (c:Nat) (g:Nat) (nm:ByteArray) (w:World) (hc:w.cell? ⟨g,0,none⟩=some (.string nm)) :
 Calls Tryz.prog 202 #[pinV x A c,.pointer (some ⟨g,0,none⟩)] w fun e w'=>e=.returned (.bool (x.name.toList==nm.toList))∧Ext w w':=by
 obtain⟨xn,xf⟩:=x
 dsimp only[pinV]
 generalize xf.length=xl at *
 have b1:=Blk.new w 181 #[.string xn,.slice A xl c]
 have hx0:Ext w (w.alloc (.cells #[.string xn,.slice A xl c] 181)):=(Ext.refl w).alloc _
 have hlc:=lt_of_cell hc
 have e1:=b1.cell;have l1:=b1.lt
 have ec:=hx0.cell hc
 go_enter Tryz.func202,Tryz.ntmps202
 go_wp2
 go_ret
 exact⟨rfl,hx0⟩
set_option maxRecDepth 100000 in
theorem me1_any (x:Pin) (A:Option Addr) (c:Nat) (g:Nat) (nm:ByteArray) (w:World) (hc:w.cell? ⟨g,0,none⟩=some (.string nm)) :
 Calls Tryz.prog 130 #[pinV x A c,.pointer (some ⟨g,0,none⟩)] w fun e w'=>e=.returned (.bool (x.name.toList==nm.toList))∧Ext w w':=by
 obtain⟨xn,xf⟩:=x
 dsimp only[pinV]
 generalize xf.length=xl at *
 have b1:=Blk.new w 181 #[.string xn,.slice A xl c]
 have hx0:Ext w (w.alloc (.cells #[.string xn,.slice A xl c] 181)):=(Ext.refl w).alloc _
 have hlc:=lt_of_cell hc
 have e1:=b1.cell;have l1:=b1.lt
 have ec:=hx0.cell hc
 go_enter Tryz.func130,Tryz.ntmps130
 go_wp2
 go_ret
 exact⟨rfl,hx0⟩
set_option maxRecDepth 100000 in
theorem ft1_any (x:Ins) (A:Option Addr) (m c:Nat) (b:Bool) (g:Nat) (nm:ByteArray) (w:World) (hc:w.cell? ⟨g,0,none⟩=some (.string nm)) :
 Calls Tryz.prog 134 #[insV x A m c b,.pointer (some ⟨g,0,none⟩)] w fun e w'=>e=.returned (.bool (x.name.toList==nm.toList))∧Ext w w':=by
 obtain⟨xn,⟨v1,v2,v3,va⟩⟩:=x
 dsimp only[insV]
 have b1:=Blk.new w 178 #[.string xn,.int .i64 v1,.int .i64 v2,.int .i64 v3,.string va,.slice A m c,.bool b]
 have hx0:Ext w (w.alloc (.cells #[.string xn,.int .i64 v1,.int .i64 v2,.int .i64 v3,.string va,.slice A m c,.bool b] 178)):=(Ext.refl w).alloc _
 have hlc:=lt_of_cell hc
 have e1:=b1.cell;have l1:=b1.lt
 have ec:=hx0.cell hc
 go_enter Tryz.func134,Tryz.ntmps134
 go_wp2
 go_ret
 exact⟨rfl,hx0⟩
set_option maxRecDepth 100000 in
theorem fw1_any (x:Ins) (A:Option Addr) (m c:Nat) (b:Bool) (g:Nat) (nm:ByteArray) (w:World) (hc:w.cell? ⟨g,0,none⟩=some (.string nm)) :
 Calls Tryz.prog 144 #[insV x A m c b,.pointer (some ⟨g,0,none⟩)] w fun e w'=>e=.returned (.bool (x.name.toList==nm.toList))∧Ext w w':=by
 obtain⟨xn,⟨v1,v2,v3,va⟩⟩:=x
 dsimp only[insV]
 have b1:=Blk.new w 178 #[.string xn,.int .i64 v1,.int .i64 v2,.int .i64 v3,.string va,.slice A m c,.bool b]
 have hx0:Ext w (w.alloc (.cells #[.string xn,.int .i64 v1,.int .i64 v2,.int .i64 v3,.string va,.slice A m c,.bool b] 178)):=(Ext.refl w).alloc _
 have hlc:=lt_of_cell hc
 have e1:=b1.cell;have l1:=b1.lt
 have ec:=hx0.cell hc
 go_enter Tryz.func144,Tryz.ntmps144
 go_wp2
 go_ret
 exact⟨rfl,hx0⟩
end
end Go.Proofs.YtmnafaaijglnfaaGreatDoor
