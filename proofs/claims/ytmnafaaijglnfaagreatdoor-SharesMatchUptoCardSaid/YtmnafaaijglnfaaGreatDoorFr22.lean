/- Contract of the reference's reading of conditions, all levels; plain: the parts of a condition, their errors. Contracts of ver.walk and outref2.CondParts, for whatever visits the parts. Plain law: what is read of a text as a condition has a bearable size. Plain law: what both readers make of a text. -/
import Derived.Test.YtmnafaaijglnfaaGreatDoorFr21
namespace Go.Proofs.YtmnafaaijglnfaaGreatDoor
section
open Go.RowKit
theorem condR_all (g b:Nat) (W:List Wd) (hW:LastE W) (hWl:W.length<=3000000):∀ (n lev:Nat),lev+n=100->∀ (τ:Rs) (w:World),RdR w g b W τ ->
 Calls Tryz.prog 103 #[.pointer (some ⟨g,0,none⟩),.int .i64 lev] w (CrPost g b W w (condRF n τ))
 | 0,lev,hl,τ,w,h=>by
   obtain rfl:lev=100:=by omega
   exact condR_step g b W hW 100 none (Nat.le_refl _) (fun _=>rfl) (fun f e=>by cases e) (fun f e=>by cases e) (fun f e=>by cases e) τ w h
 | n+1,lev,hl,τ,w,h=>by
   have ih:=condR_all g b W hW hWl n (lev+1) (by omega)
   exact condR_step g b W hW lev (some (condRF n)) (by omega) (fun e=>by cases e) (fun f _=>by omega)
    (fun f e υ V hr=>by cases e;exact group_step g b W hW hWl (lev+1) n ih υ V hr) (fun f e=>by cases e;exact ih) τ w h
def Cd.kind:Cd->Int|.mk k _ _ _=>k
def Cd.name:Cd->ByteArray|.mk _ n _ _=>n
def Cd.value:Cd->ByteArray|.mk _ _ x _=>x
def Cd.args:Cd->List Cd|.mk _ _ _ l=>l
mutual
def cnt:Cd->Nat|.mk _ _ _ l=>1+cnts l
def cnts:List Cd->Nat|[]=>0|c::l=>cnt c+cnts l
end
mutual
def prt (lev:Nat):Cd->List (Cd × Nat)|.mk k n x l=>(.mk k n x l,lev)::prts (lev+1) l
def prts (lev:Nat):List Cd->List (Cd × Nat)|[]=>[]|c::l=>prt lev c++prts lev l
end
theorem cnt_pos (c:Cd):0 < cnt c:=by cases c;unfold cnt;omega
mutual
theorem prt_len (lev:Nat):∀ c:Cd,(prt lev c).length=cnt c
 | .mk k n x l=>by unfold prt cnt;rw[List.length_cons,prts_len (lev+1) l];omega
theorem prts_len (lev:Nat):∀ l:List Cd,(prts lev l).length=cnts l
 | []=>rfl
 | c::l=>by unfold prts cnts;rw[List.length_append,prt_len lev c,prts_len lev l]
end
theorem cnts_append (a b:List Cd):cnts (a++b)=cnts a+cnts b:=by
 induction a with
 | nil=>simp[cnts]
 | cons x r ih=>simp only[List.cons_append,cnts,ih];omega
theorem prts_append (lev:Nat) (a b:List Cd):prts lev (a++b)=prts lev a++prts lev b:=by
 induction a with
 | nil=>simp[prts]
 | cons x r ih=>simp only[List.cons_append,prts,ih,List.append_assoc]
inductive SmallC:Cd->Prop where
 | mk (k:Int) (n x:ByteArray) (l:List Cd) (hn:n.size<=2097152) (hx:x.size<=2097152) (hl:l.length<=100000000) (hr:∀ c∈l,SmallC c):SmallC (.mk k n x l)
def namedK (k:Int):Bool:=decide (2<=k)&&decide (k<=5)
def valuedK (k:Int):Bool:=namedK k&&!decide (k=4)
def formBad (k:Int) (n x:Str) (m:Nat):Bool :=
 (!namedK k&&!n.isEmpty)||(!valuedK k&&!x.isEmpty)||(!decide (6<=k)&&decide (0 < m))||(decide (k=6)&&!decide (m=1))
def partErr (k:Int) (n x:Str) (m:Nat):Int :=
 if k < 1∨8 < k then 1
 else if formBad k n x m=true then 2
 else if namedK k=false then 0
 else if (!(if k=3∨k=4 then pathL n else nameL n))=true then 5
 else if (!valueL x)=true then 2
 else if k=5 then (parseR x).2 else 0
def partC (c:Cd):Int:=partErr c.kind (bs c.name) (bs c.value) c.args.length
def firstErr:List (Cd × Nat)->Int
 | []=>0
 | p::r=>if partC p.1=0 then firstErr r else partC p.1
def checkC (c:Cd):Int :=
 if 100 < cnt c then 4
 else if firstErr (prt 0 c)≠0 then firstErr (prt 0 c)
 else if (prt 0 c).any (fun p=>decide (20 < p.2))=true then 4 else 0
end
section
open Go.RowKit
theorem CdIn.extC {C P:Nat->Prop} {w w':World} {c:Cd} {v:Value} (h:CdIn P w c v) (hx:ExtC C w w') (hp:∀ k,P k->¬ C k):CdIn P w' c v:=h.keep fun b _ _ hb e=>hx.cell (hp b hb) e
def runP {α:Type} (step:Cd->Nat->α->α × Bool):List (Cd × Nat)->α->α × Bool
 | [],st=>(st,true)
 | p::r,st=>if (step p.1 p.2 st).2=true then runP step r (step p.1 p.2 st).1 else ((step p.1 p.2 st).1,false)
theorem runP_append {α:Type} (step:Cd->Nat->α->α × Bool) (b:List (Cd × Nat)):∀ (a:List (Cd × Nat)) (st:α),runP step (a++b) st=if (runP step a st).2=true then runP step b (runP step a st).1 else ((runP step a st).1,false)
 | [],st=>by simp[runP]
 | p::r,st=>by
   simp only[List.cons_append,runP]
   by_cases h:(step p.1 p.2 st).2=true
   ·simp only[if_pos h,runP_append step b r]
   ·simp only[if_neg h]
    simp
theorem runP_stop {α:Type} (step:Cd->Nat->α->α × Bool) (lev:Nat) (l:List Cd) (j:Nat) (h:j < l.length) {st s1 s2:α} (h1:runP step (prts lev (l.take j)) st=(s1,true)) (h2:runP step (prt lev l[j]) s1=(s2,false)):runP step (prts lev l) st=(s2,false):=by
 have e:prts lev l=(prts lev (l.take j)++prt lev l[j])++prts lev (l.drop (j+1)):=by
  rw[List.append_assoc]
  conv=>lhs;rw[<-List.take_append_drop j l,prts_append,List.drop_eq_getElem_cons h]
  rfl
 rw[e,runP_append,runP_append,h1]
 simp[h2]
theorem runP_next {α:Type} (step:Cd->Nat->α->α × Bool) (lev:Nat) (l:List Cd) (j:Nat) (h:j < l.length) {st s1 s2:α} (h1:runP step (prts lev (l.take j)) st=(s1,true)) (h2:runP step (prt lev l[j]) s1=(s2,true)):runP step (prts lev (l.take (j+1))) st=(s2,true):=by
 have e:prts lev (l.take (j+1))=prts lev (l.take j)++prt lev l[j]:=by
  rw[List.take_succ_eq_append_getElem h,prts_append]
  simp[prts]
 rw[e,runP_append,h1]
 simp[h2]
theorem prts_take (lev:Nat) (l:List Cd) (j:Nat) (h:j < l.length):prts lev (l.take (j+1))=prts lev (l.take j)++prt lev l[j]:=by
 rw[List.take_succ_eq_append_getElem h,prts_append]
 simp[prts]
theorem cnts_at:∀ (l:List Cd) (j:Nat) (h:j < l.length),cnt l[j]<=cnts l
 | c::l,0,_=>by simp only[cnts,List.getElem_cons_zero];omega
 | c::l,j+1,h=>by
   have:=cnts_at l j (by simpa using h)
   simp only[cnts,List.getElem_cons_succ]
   omega
theorem cnts_len:∀ (l:List Cd),l.length<=cnts l
 | []=>Nat.le_refl _
 | c::l=>by
   have:=cnts_len l
   have:=cnt_pos c
   simp only[cnts,List.length_cons]
   omega
theorem runP_yes {α:Type} (step:Cd->Nat->α->α × Bool) (hyes:∀ c lev st,(step c lev st).2=true):∀ (l:List (Cd × Nat)) (st:α),(runP step l st).2=true
 | [],_=>rfl
 | p::r,st=>by
   unfold runP
   rw[if_pos (hyes _ _ _)]
   exact runP_yes step hyes r _
set_option maxRecDepth 100000 in
set_option maxHeartbeats 8000000 in
theorem walk_any {α:Type} (f:FuncId) (caps:Array Value) (hen:∀ xs w,Sem.run Tryz.prog (callFunc f xs) w=.ok (.enter f xs) w) (P C:Nat->Prop) (B:Nat) (Inv:α->World->Prop) (step:Cd->Nat->α->α × Bool)
 (hal:∀ st w w',Inv st w->Ext w w'->Inv st w') (hC:∀ k,C k->k < B) (hB:∀ st w,Inv st w->B<=w.heap.size) (hP:∀ k,P k->¬ C k)
 (hf:∀ c v (lev:Nat) st w,lev<=1000000000->SmallC c->CdIn P w c v->Inv st w->Calls Tryz.prog f (#[v,.int .i64 lev]++caps) w fun e w'=>e=.returned (.bool (step c lev st).2)∧Inv (step c lev st).1 w'∧ExtC C w w') :
 ∀ (N:Nat) (c:Cd),cnt c<=N->∀ (lev:Nat) (v:Value) (st:α) (w:World),lev+N<=1000000000->SmallC c->CdIn P w c v->Inv st w ->
  Calls Tryz.prog 171 #[v,.int .i64 lev,.func (.func f) #[] caps] w fun e w'=>e=.returned (.bool (runP step (prt lev c) st).2)∧Inv (runP step (prt lev c) st).1 w'∧ExtC C w w':=by
 intro N
 induction N with
 | zero=>intro c hc;have:=cnt_pos c;omega
 | succ N ih =>
   intro c hc lev v st w hlev hsm hcd hinv
   have hc0:=hcd
   cases hcd with
   | mk k n x l A cp b o u0 u1 u2 u3 hA hb h0 h1 h2 h3 hr =>
     obtain⟨_,_,_,_,hsn,hsx,hsl,hsr⟩:=hsm
     have hnw:w.heap.size<=w.heap.size:=Nat.le_refl _
     have hBw:=hB _ _ hinv
     have hnC:¬ C w.heap.size:=fun h=>by have:=hC _ h;omega
     have hxb:Ext w (w.alloc (.cells #[.int .i64 k,.string n,.string x,.slice A l.length cp] 52)):=(Ext.refl w).alloc _
     have hfb:=hf (.mk k n x l) _ lev st _ (by omega) ⟨k,n,x,l,hsn,hsx,hsl,hsr⟩ (hc0.ext hxb) (hal _ _ _ hinv hxb)
     have bx:=Blk.new w 52 #[.int .i64 k,.string n,.string x,.slice A l.length cp]
     have hrun:runP step (prt lev (.mk k n x l)) st=(if (step (.mk k n x l) lev st).2=true then runP step (prts (lev+1) l) (step (.mk k n x l) lev st).1 else ((step (.mk k n x l) lev st).1,false)):=rfl
     rw[hrun]
     have hcl:cnts l<=N:=by unfold cnt at hc;omega
     have hlw:IntKind.i64.wrap ((lev:Int)+1)=(lev:Int)+1:=by rw[IntKind.wrap_i64];omega
     have hll:=cnts_len l
     skip
     generalize step (.mk k n x l) lev st=S at *
     obtain⟨st1,ok⟩:=S
     dsimp only at hfb ⊢
     have HF:=Hy hfb
     have HEN:=hen
     clear hfb hrun hc hinv
     cases ok
     ·go_enter Tryz.func171,Tryz.ntmps171
      go_wp2_with fail
      refine HF.out.mono ?_
      rintro e w1 ⟨rfl,hinv1,hx1⟩
      go_wp2
      go_ret
      exact⟨rfl,hinv1,(ExtC.ofExt hxb).trans hx1⟩
     obtain⟨R,hR⟩:∃ R,runP step (prts (lev+1) l) st1=R:=⟨_,rfl⟩
     rw[if_pos rfl,hR]
     have HR:=Hy hR
     have HIHs:=Hy ih
     have HSR:=Hy hsr
     have HH0:=Hy h0;have HH1:=Hy h1;have HH2:=Hy h2;have HH3:=Hy h3;have HHR:=Hy hr
     have HB:=Hy hB;have HP:=Hy hP;have HA:=Hy hA;have HBB:=Hy hb;have HAL:=Hy hal
     clear hR ih hf h0 h1 h2 h3 hr hsr hB hP hA hb hc0 hal
     go_enter Tryz.func171,Tryz.ntmps171
     go_wp2_with fail
     refine HF.out.mono ?_
     rintro e w1 ⟨rfl,hinv1,hx1⟩
     have bx1:=bx.extC hx1 hnC
     have bc:=bx1.cell;have bf:=bx1.free;have bz:=bx1.lt
     have hxa:=(ExtC.ofExt hxb).trans hx1
     clear bx
     go_wp2
     go_loopw [17] (fun t wr=>∃ (j:Nat) (sj:α),t=.int .i64 j∧j<=l.length∧Inv sj wr∧ExtC C w wr∧runP step (prts (lev+1) (l.take j)) st1=(sj,true)) (fun t _=>l.length - (intOf t).toNat)
     case atStart=>exact⟨0,st1,by go_num,Nat.zero_le _,hinv1,hxa,rfl⟩
     case round =>
      obtain⟨j,sj,rfl,hj,hinvr,hxr,hdone⟩:=hrel
      have HXR:=Hy hxr
      clear bc bf bz bx1 hx1 hinv1 HF hxa
      by_cases hlt:j < l.length
      ·obtain rfl:=HA.out (by omega)
       have hPb:=HBB.out (by omega)
       have hnb:=HP.out b hPb
       have g0:=hxr.cell hnb (HH0.out j hlt)
       have g1:=hxr.cell hnb (HH1.out j hlt)
       have g2:=hxr.cell hnb (HH2.out j hlt)
       have g3:=hxr.cell hnb (HH3.out j hlt)
       have hcj:=HHR.out j hlt
       obtain⟨ck,cn,cx,cA,cm,ccp,hcc⟩:=hcj.cells
       have hcc2:=hcc
       simp only[Value.agg.injEq,Array.mk.injEq,List.cons.injEq,and_true] at hcc2
       obtain⟨q0,q1,q2,q3⟩:=hcc2
       rw[hcc] at hcj
       rw[q0] at g0;rw[q1] at g1;rw[q2] at g2;rw[q3] at g3
       clear hcc q0 q1 q2 q3
       have hxc:Ext wr (wr.alloc (.cells #[.int .i64 ck,.string cn,.string cx,.slice cA cm ccp] 52)):=(Ext.refl wr).alloc _
       have hih:=HIHs.out l[j] (Nat.le_trans (cnts_at l j hlt) hcl) (lev+1) _ sj _ (by omega) (HSR.out _ (List.getElem_mem hlt)) ((hcj.extC hxr HP.out).ext hxc) (HAL.out _ _ _ hinvr hxc)
       rw[show ((lev+1:Nat):Int)=(lev:Int)+1 by omega] at hih
       generalize hs2:runP step (prt (lev+1) l[j]) sj=S2 at *
       have hq0:(0:Int)<=(j:Int):=by omega
       clear hxr hxc hcj
       obtain⟨s2,ok2⟩:=S2
       dsimp only at hih
       have HIH:=Hy hih
       cases ok2
       ·have hfin:=runP_stop step (lev+1) l j hlt hdone hs2
        rw[HR.out] at hfin
        subst hfin
        clear hdone hs2 hih
        go_wp2_with fail
        refine HIH.out.mono ?_
        rintro e w3 ⟨rfl,hinv3,hx3⟩
        go_wp2
        go_ret
        exact⟨rfl,hinv3,(HXR.out.trans (ExtC.ofExt ((Ext.refl wr).alloc _))).trans hx3⟩
       ·have hnx:=runP_next step (lev+1) l j hlt hdone hs2
        have HNX:=Hy hnx
        clear hdone hs2 hnx hih
        go_wp2_with fail
        refine HIH.out.mono ?_
        rintro e w3 ⟨rfl,hinv3,hx3⟩
        go_wp2
        go_roundw
        case rel=>exact⟨j+1,s2,by go_num,hlt,hinv3,(HXR.out.trans (ExtC.ofExt ((Ext.refl wr).alloc _))).trans hx3,HNX.out⟩
        case measure=>simp[intOf];omega
      ·have hjl:l.take j=l:=List.take_of_length_le (by omega)
       rw[hjl,HR.out] at hdone
       subst hdone
       go_wp2
       go_ret
       exact⟨rfl,hinvr,HXR.out⟩
set_option maxRecDepth 100000 in
set_option maxHeartbeats 8000000 in
theorem CondParts_any {α:Type} (f:FuncId) (caps:Array Value) (hen:∀ xs w,Sem.run Tryz.prog (callFunc f xs) w=.ok (.enter f xs) w) (P C:Nat->Prop) (B:Nat) (Inv:α->World->Prop) (step:Cd->Nat->α->α × Bool)
 (hal:∀ st w w',Inv st w->Ext w w'->Inv st w') (hC:∀ k,C k->k < B) (hB:∀ st w,Inv st w->B<=w.heap.size) (hP:∀ k,P k->¬ C k) (hyes:∀ c lev st,(step c lev st).2=true)
 (hf:∀ c v (lev:Nat) st w,lev<=1000000000->SmallC c->CdIn P w c v->Inv st w->Calls Tryz.prog f (#[v,.int .i64 lev]++caps) w fun e w'=>e=.returned (.tuple #[])∧Inv (step c lev st).1 w'∧ExtC C w w') :
 ∀ (N:Nat) (c:Cd),cnt c<=N->∀ (lev:Nat) (v:Value) (st:α) (w:World),lev+N<=1000000000->SmallC c->CdIn P w c v->Inv st w ->
  Calls Tryz.prog 179 #[v,.int .i64 lev,.func (.func f) #[] caps] w fun e w'=>e=.returned (.tuple #[])∧Inv (runP step (prt lev c) st).1 w'∧ExtC C w w':=by
 intro N
 induction N with
 | zero=>intro c hc;have:=cnt_pos c;omega
 | succ N ih =>
   intro c hc lev v st w hlev hsm hcd hinv
   have hc0:=hcd
   cases hcd with
   | mk k n x l A cp b o u0 u1 u2 u3 hA hb h0 h1 h2 h3 hr =>
     obtain⟨_,_,_,_,hsn,hsx,hsl,hsr⟩:=hsm
     have hnw:w.heap.size<=w.heap.size:=Nat.le_refl _
     have hBw:=hB _ _ hinv
     have hnC:¬ C w.heap.size:=fun h=>by have:=hC _ h;omega
     have hxb:Ext w (w.alloc (.cells #[.int .i64 k,.string n,.string x,.slice A l.length cp] 52)):=(Ext.refl w).alloc _
     have hfb:=hf (.mk k n x l) _ lev st _ (by omega) ⟨k,n,x,l,hsn,hsx,hsl,hsr⟩ (hc0.ext hxb) (hal _ _ _ hinv hxb)
     have bx:=Blk.new w 52 #[.int .i64 k,.string n,.string x,.slice A l.length cp]
     have hrun:runP step (prt lev (.mk k n x l)) st=(if (step (.mk k n x l) lev st).2=true then runP step (prts (lev+1) l) (step (.mk k n x l) lev st).1 else ((step (.mk k n x l) lev st).1,false)):=rfl
     rw[hrun]
     have hcl:cnts l<=N:=by unfold cnt at hc;omega
     have hlw:IntKind.i64.wrap ((lev:Int)+1)=(lev:Int)+1:=by rw[IntKind.wrap_i64];omega
     have hll:=cnts_len l
     have hok:=hyes (.mk k n x l) lev st
     generalize step (.mk k n x l) lev st=S at *
     obtain⟨st1,ok⟩:=S
     dsimp only at hfb hok ⊢
     have HF:=Hy hfb
     have HEN:=hen
     clear hfb hrun hc hinv
     obtain rfl:ok=true:=hok
     obtain⟨R,hR⟩:∃ R,runP step (prts (lev+1) l) st1=R:=⟨_,rfl⟩
     rw[if_pos rfl,hR]
     have HR:=Hy hR
     have HIHs:=Hy ih
     have HSR:=Hy hsr
     have HH0:=Hy h0;have HH1:=Hy h1;have HH2:=Hy h2;have HH3:=Hy h3;have HHR:=Hy hr
     have HB:=Hy hB;have HP:=Hy hP;have HA:=Hy hA;have HBB:=Hy hb;have HAL:=Hy hal
     clear hR ih hf h0 h1 h2 h3 hr hsr hB hP hA hb hc0 hal
     go_enter Tryz.func179,Tryz.ntmps179
     go_wp2_with fail
     refine HF.out.mono ?_
     rintro e w1 ⟨rfl,hinv1,hx1⟩
     have bx1:=bx.extC hx1 hnC
     have bc:=bx1.cell;have bf:=bx1.free;have bz:=bx1.lt
     have hxa:=(ExtC.ofExt hxb).trans hx1
     clear bx
     go_wp2
     go_loopw [15] (fun t wr=>∃ (j:Nat) (sj:α),t=.int .i64 j∧j<=l.length∧Inv sj wr∧ExtC C w wr∧runP step (prts (lev+1) (l.take j)) st1=(sj,true)) (fun t _=>l.length - (intOf t).toNat)
     case atStart=>exact⟨0,st1,by go_num,Nat.zero_le _,hinv1,hxa,rfl⟩
     case round =>
      obtain⟨j,sj,rfl,hj,hinvr,hxr,hdone⟩:=hrel
      have HXR:=Hy hxr
      clear bc bf bz bx1 hx1 hinv1 HF hxa
      by_cases hlt:j < l.length
      ·obtain rfl:=HA.out (by omega)
       have hPb:=HBB.out (by omega)
       have hnb:=HP.out b hPb
       have g0:=hxr.cell hnb (HH0.out j hlt)
       have g1:=hxr.cell hnb (HH1.out j hlt)
       have g2:=hxr.cell hnb (HH2.out j hlt)
       have g3:=hxr.cell hnb (HH3.out j hlt)
       have hcj:=HHR.out j hlt
       obtain⟨ck,cn,cx,cA,cm,ccp,hcc⟩:=hcj.cells
       have hcc2:=hcc
       simp only[Value.agg.injEq,Array.mk.injEq,List.cons.injEq,and_true] at hcc2
       obtain⟨q0,q1,q2,q3⟩:=hcc2
       rw[hcc] at hcj
       rw[q0] at g0;rw[q1] at g1;rw[q2] at g2;rw[q3] at g3
       clear hcc q0 q1 q2 q3
       have hxc:Ext wr (wr.alloc (.cells #[.int .i64 ck,.string cn,.string cx,.slice cA cm ccp] 52)):=(Ext.refl wr).alloc _
       have hih:=HIHs.out l[j] (Nat.le_trans (cnts_at l j hlt) hcl) (lev+1) _ sj _ (by omega) (HSR.out _ (List.getElem_mem hlt)) ((hcj.extC hxr HP.out).ext hxc) (HAL.out _ _ _ hinvr hxc)
       rw[show ((lev+1:Nat):Int)=(lev:Int)+1 by omega] at hih
       generalize hs2:runP step (prt (lev+1) l[j]) sj=S2 at *
       have hq0:(0:Int)<=(j:Int):=by omega
       clear hxr hxc hcj
       obtain⟨s2,ok2⟩:=S2
       have hok2:ok2=true:=by
        have:=runP_yes step hyes (prt (lev+1) l[j]) sj
        rw[hs2] at this
        exact this
       subst hok2
       dsimp only at hih
       have HIH:=Hy hih
       have hnx:=runP_next step (lev+1) l j hlt hdone hs2
       have HNX:=Hy hnx
       clear hdone hs2 hnx hih
       go_wp2_with fail
       refine HIH.out.mono ?_
       rintro e w3 ⟨rfl,hinv3,hx3⟩
       go_wp2
       go_roundw
       case rel=>exact⟨j+1,s2,by go_num,hlt,hinv3,(HXR.out.trans (ExtC.ofExt ((Ext.refl wr).alloc _))).trans hx3,HNX.out⟩
       case measure=>simp[intOf];omega
      ·have hjl:l.take j=l:=List.take_of_length_le (by omega)
       rw[hjl,HR.out] at hdone
       subst hdone
       go_wp2
       refine bodyPost_end (results_none rfl _ _ _) rfl ⟨rfl,hinvr,HXR.out⟩
end
section
inductive StrC (m:Nat):Cd->Prop where
 | mk (k:Int) (n x:ByteArray) (l:List Cd) (hn:n.size<=m) (hx:x.size<=m) (hr:∀ c∈l,StrC m c):StrC m (.mk k n x l)
theorem StrC.zero (m:Nat):StrC m zeroC:=.mk _ _ _ _ (Nat.zero_le _) (Nat.zero_le _) (fun _ h=>by cases h)
theorem cnts_mem:∀ {l:List Cd} {c:Cd},c∈l->cnt c<=cnts l
 | a::l,c,h=>by
   rcases List.mem_cons.1 h with rfl|h
   ·simp only[cnts];omega
   ·have:=cnts_mem h
    simp only[cnts];omega
theorem cnts_len':∀ (l:List Cd),l.length<=cnts l
 | []=>Nat.le_refl _
 | c::l=>by
   have:=cnts_len' l
   have:=cnt_pos c
   simp only[cnts,List.length_cons]
   omega
theorem small_of {m:Nat} (hm:m<=2097152) {c:Cd} (h:StrC m c) (hc:cnt c<=100000000):SmallC c:=by
 induction h with
 | mk k n x l hn hx hr ih =>
   unfold cnt at hc
   have:=cnts_len' l
   exact .mk k n x l (by omega) (by omega) (by omega) fun c hcl=>ih c hcl (by have:=cnts_mem hcl;omega)
section
variable {s:ByteArray}
def phi (s:ByteArray) (σ:St):Nat:=if σ.wr < 0 then (s.size+1 - σ.p)+(if σ.k=0∨σ.k=4 then 0 else 1) else 0
theorem phi_adv {σ:St} (ho:OkS s σ) (hw:σ.wr < 0) (h0:σ.k≠0) (h4:σ.k≠4):phi s (advF s σ)+1<=phi s σ:=by
 have hw2:(advF s σ).wr < 0:=by rw[show (advF s σ).wr=σ.wr from tokF_wr s σ _];exact hw
 have hp:=ho.p
 have hp2:=(advF_ok ho).p
 have hge:=(advF_on s σ).p ho
 unfold phi
 rw[if_pos hw,if_pos hw2,if_neg (show ¬ (σ.k=0∨σ.k=4) by omega)]
 by_cases hk:(advF s σ).k=0∨(advF s σ).k=4
 ·rw[if_pos hk];omega
 ·rw[if_neg hk]
  have:=advF_lt (s:=s) (σ:=σ) (fun e=>hk (.inl e)) (fun e=>hk (.inr e))
  omega
theorem phi_fail (σ:St) (a:Nat):phi s (failF σ a)<=phi s σ:=by
 unfold failF
 split
 ·unfold phi
  rw[if_neg (show ¬ (a:Int) < 0 by omega)]
  exact Nat.zero_le _
 ·exact Nat.le_refl _
theorem phi_take {σ:St} (ho:OkS s σ) (k:Int) (t:Str) (h0:k≠0) (h4:k≠4):phi s (takeF s σ k t).2<=phi s σ∧((takeF s σ k t).2.wr < 0->phi s (takeF s σ k t).2+1<=phi s σ):=by
 unfold takeF
 split
 ·rename_i h
  exact⟨Nat.le_refl _,fun x=>absurd x h⟩
 ·rename_i h
  have hw:=Classical.not_not.1 h
  split
  ·refine⟨?_,fun x=>absurd x (by show ¬ (σ.a:Int) < 0;omega)⟩
   unfold phi
   rw[if_neg (show ¬ (σ.a:Int) < 0 by omega)]
   exact Nat.zero_le _
  ·rename_i hm
   have hk:σ.k=k:=Classical.byContradiction fun e=>hm (.inl e)
   have:=phi_adv ho hw (by rw[hk];exact h0) (by rw[hk];exact h4)
   exact⟨by show phi s (advF s σ)<=_;omega,fun _=>this⟩
theorem take_ok {σ:St} (ho:OkS s σ) (k:Int) (t:Str):OkS s (takeF s σ k t).2:=(takeF_ok ho k t).1
def Bnd (s:ByteArray) (f:St->Cd × St):Prop:=∀ σ,OkS s σ->cnt (f σ).1+phi s (f σ).2<=1+phi s σ∧StrC s.size (f σ).1∧OkS s (f σ).2
theorem cnt_mk (k:Int) (n x:ByteArray) (l:List Cd):cnt (.mk k n x l)=1+cnts l:=by simp[cnt]
theorem cnt_leaf (k:Int) (n x:ByteArray):cnt (.mk k n x [])=1:=by simp[cnt,cnts]
theorem cnt_one (k:Int) (n x:ByteArray) (c:Cd):cnt (.mk k n x [c])=1+cnt c:=by simp[cnt,cnts]
theorem one_str {m:Nat} {c:Cd} (k:Int) (h:StrC m c):StrC m (.mk k ⟨#[]⟩ ⟨#[]⟩ [c]):=.mk _ _ _ _ (Nat.zero_le _) (Nat.zero_le _) (fun d hd=>by rw[List.mem_singleton] at hd;exact hd ▸ h)
theorem leaf_str {m:Nat} (k:Int):StrC m (.mk k ⟨#[]⟩ ⟨#[]⟩ []):=.mk _ _ _ _ (Nat.zero_le _) (Nat.zero_le _) (fun _ h=>by cases h)
theorem loop_bnd {f:St->Cd × St} (hf:Bnd s f) (word:Str):∀ m σ l,OkS s σ->(∀ c∈l,StrC s.size c) ->
 cnts (loopF s f word m σ l).1+phi s (loopF s f word m σ l).2<=cnts l+phi s σ∧(∀ c∈(loopF s f word m σ l).1,StrC s.size c)∧OkS s (loopF s f word m σ l).2
 | 0,σ,l,ho,hl=>⟨Nat.le_refl _,hl,ho⟩
 | m+1,σ,l,ho,hl=>by
   unfold loopF
   split
   ·rename_i hi
    have hx:=hi
    unfold isF at hx
    simp only[Bool.and_eq_true,decide_eq_true_eq] at hx
    have h1:=phi_adv ho hx.1.1 (by rw[hx.1.2];decide) (by rw[hx.1.2];decide)
    obtain⟨h2,h3,h4⟩:=hf _ (advF_ok ho)
    obtain⟨h5,h6,h7⟩:=loop_bnd hf word m _ (l++[(f (advF s σ)).1]) h4 (fun c hc=>by
     rcases List.mem_append.1 hc with h|h
     ·exact hl c h
     ·rw[List.mem_singleton] at h;exact h ▸ h3)
    refine⟨?_,h6,h7⟩
    rw[cnts_append] at h5
    simp only[cnts,Nat.add_zero] at h5
    omega
   ·exact⟨Nat.le_refl _,hl,ho⟩
theorem head_bnd {f:St->Cd × St} (hf:Bnd s f) (word:ByteArray) (σ:St) (ho:OkS s σ):cnt (headF s f word σ).1+phi s (headF s f word σ).2<=2+phi s σ∧StrC s.size (headF s f word σ).1∧OkS s (headF s f word σ).2:=by
 unfold headF
 split
 ·have:=(phi_take ho 3 [41] (by decide) (by decide)).1
  refine⟨?_,leaf_str _,take_ok ho _ _⟩
  show cnt (.mk _ _ _ [])+_<=_
  rw[cnt_leaf]
  show 1+phi s (takeF s σ 3 [41]).2<=_
  omega
 ·obtain⟨h1,h2,h3⟩:=hf σ ho
  have:=(phi_take h3 3 [41] (by decide) (by decide)).1
  refine⟨?_,one_str _ h2,take_ok h3 _ _⟩
  show cnt (.mk _ _ _ [_])+_<=_
  rw[cnt_one]
  show 1+cnt (f σ).1+phi s (takeF s (f σ).2 3 [41]).2<=_
  omega
theorem tail_bnd {f:St->Cd × St} (hf:Bnd s f) (c:Cd) (σ:St) (ho:OkS s σ) (hc:StrC s.size c):cnt (tailF s f c σ).1+phi s (tailF s f c σ).2<=1+cnt c+phi s σ∧StrC s.size (tailF s f c σ).1∧OkS s (tailF s f c σ).2:=by
 have ho2:OkS s (fixF σ):=(fixF_on σ).ok ho
 have hfx:phi s (fixF σ)<=phi s σ:=by
  unfold fixF
  split
  ·exact phi_fail σ σ.a
  ·exact Nat.le_refl _
 obtain⟨h1,h2,h3⟩:=loop_bnd hf (bs σ.t) (left s (fixF σ)) (fixF σ) [c] ho2 (fun d hd=>by rw[List.mem_singleton] at hd;exact hd ▸ hc)
 have h4:=(phi_take h3 3 [41] (by decide) (by decide)).1
 simp only[cnts,Nat.add_zero] at h1
 unfold tailF
 refine⟨?_,.mk _ _ _ _ (Nat.zero_le _) (Nat.zero_le _) h2,take_ok h3 _ _⟩
 show cnt (.mk _ _ _ _)+phi s (takeF s _ 3 [41]).2<=_
 rw[cnt_mk]
 omega
theorem pair_bnd (σ:St) (ho:OkS s σ) (kind mid:Int) (t:Str) (h0:mid≠0) (h4:mid≠4):cnt (pairF s σ kind mid t).1+phi s (pairF s σ kind mid t).2<=1+phi s σ∧StrC s.size (pairF s σ kind mid t).1∧OkS s (pairF s σ kind mid t).2:=by
 have o1:=takeF_ok ho 1 []
 have o2:=takeF_ok o1.1 mid t
 have o3:=takeF_ok o2.1 2 []
 have h1:=(phi_take ho 1 [] (by decide) (by decide)).1
 have h2:=(phi_take o1.1 mid t h0 h4).1
 have h3:=(phi_take o2.1 2 [] (by decide) (by decide)).1
 unfold pairF
 refine⟨?_,.mk _ _ _ _ o1.2 o3.2 (fun _ h=>by cases h),o3.1⟩
 show cnt (.mk _ _ _ [])+_<=_
 rw[cnt_leaf]
 show 1+phi s (takeF s _ 2 []).2<=_
 omega
theorem cond_bnd (f:Option (St->Cd × St)) (hf:∀ g,f=some g->Bnd s g):Bnd s (condB s f):=by
 intro σ ho
 unfold condB
 split
 ·rename_i hi
  unfold listB
  cases f with
  | none =>
    have:=phi_fail (s:=s) σ σ.a
    refine⟨?_,StrC.zero _,(failF_on s σ σ.a).ok ho⟩
    show cnt zeroC+phi s (failF σ σ.a)<=_
    rw[show cnt zeroC=1 from cnt_leaf _ _ _]
    omega
  | some g =>
    have hg:=hf g rfl
    have hx:=hi
    unfold isF at hx
    simp only[Bool.and_eq_true,decide_eq_true_eq] at hx
    have ho1:=take_ok ho 3 [40]
    have hok:(takeF s σ 3 [40]).2.wr < 0:=by
     unfold takeF
     rw[if_neg (show ¬ ¬ σ.wr < 0 from fun x=>x hx.1.1),if_neg (by rintro (x|x);exact x hx.1.2;exact x.2 hx.2)]
     rw[show (advF s σ).wr=σ.wr from tokF_wr s σ _]
     exact hx.1.1
    have h1:=(phi_take ho 3 [40] (by decide) (by decide)).2 hok
    dsimp only
    have hadv:∀ w,isF (takeF s σ 3 [40]).2 1 w=true->phi s (advF s (takeF s σ 3 [40]).2)+1<=phi s (takeF s σ 3 [40]).2:=fun w hw=>by
     unfold isF at hw
     simp only[Bool.and_eq_true,decide_eq_true_eq] at hw
     exact phi_adv ho1 hw.1.1 (by rw[hw.1.2];decide) (by rw[hw.1.2];decide)
    split
    ·rename_i hw
     have h2:=hadv _ hw
     obtain⟨a,b,c⟩:=head_bnd hg ⟨#[97,110,100]⟩ _ (advF_ok ho1)
     exact⟨by omega,b,c⟩
    ·split
     ·rename_i hw
      have h2:=hadv _ hw
      obtain⟨a,b,c⟩:=head_bnd hg ⟨#[111,114]⟩ _ (advF_ok ho1)
      exact⟨by omega,b,c⟩
     ·obtain⟨a,b,c⟩:=hg _ ho1
      obtain⟨d,e,f⟩:=tail_bnd hg _ _ c b
      exact⟨by omega,e,f⟩
 ·have ho1:=take_ok ho 1 []
  have h1:=phi_take ho 1 [] (by decide) (by decide)
  have hfl:=phi_fail (s:=s) (takeF s σ 1 []).2 σ.a
  have hz:cnt zeroC+phi s (failF (takeF s σ 1 []).2 σ.a)<=1+phi s σ∧StrC s.size zeroC∧OkS s (failF (takeF s σ 1 []).2 σ.a):=by
   refine⟨?_,StrC.zero _,(failF_on s _ _).ok ho1⟩
   rw[show cnt zeroC=1 from cnt_leaf _ _ _]
   omega
  have pb:∀ kind mid t,mid≠0->mid≠4->cnt (pairF s (takeF s σ 1 []).2 kind mid t).1+phi s (pairF s (takeF s σ 1 []).2 kind mid t).2<=1+phi s σ∧StrC s.size (pairF s (takeF s σ 1 []).2 kind mid t).1∧OkS s (pairF s (takeF s σ 1 []).2 kind mid t).2:=fun kind mid t h0 h4=>by
   obtain⟨a,b,c⟩:=pair_bnd _ ho1 kind mid t h0 h4
   exact⟨by omega,b,c⟩
  unfold wordF
  split
  ·refine⟨?_,leaf_str _,ho1⟩
   show cnt (.mk _ _ _ [])+phi s (takeF s σ 1 []).2<=_
   rw[cnt_leaf]
   omega
  split
  ·exact pb _ _ _ (by decide) (by decide)
  split
  ·exact pb _ _ _ (by decide) (by decide)
  split
  ·have o2:=takeF_ok ho1 1 []
   have h2:=(phi_take ho1 1 [] (by decide) (by decide)).1
   refine⟨?_,.mk _ _ _ _ o2.2 (Nat.zero_le _) (fun _ h=>by cases h),o2.1⟩
   show cnt (.mk _ _ _ [])+phi s (takeF s _ 1 []).2<=_
   rw[cnt_leaf]
   omega
  split
  ·exact pb _ _ _ (by decide) (by decide)
  split
  ·rename_i hx
   cases f with
   | none=>exact hz
   | some g =>
     have hok:(takeF s σ 1 []).2.wr < 0:=by
      apply Classical.byContradiction
      intro hn
      have:(takeF s σ 1 []).1=⟨#[]⟩:=by
       unfold takeF at hn ⊢
       split
       ·rfl
       ·rename_i hw
        rw[if_neg hw] at hn
        split
        ·rfl
        ·rename_i hm
         rw[if_neg hm] at hn
         exact absurd (show (advF s σ).wr < 0 by rw[show (advF s σ).wr=σ.wr from tokF_wr s σ _];exact Classical.not_not.1 hw) hn
      rw[this] at hx
      exact absurd hx (by decide)
     have h2:=h1.2 hok
     obtain⟨a,b,c⟩:=hf g rfl _ ho1
     refine⟨?_,one_str _ b,c⟩
     show cnt (.mk _ _ _ [_])+phi s (g (takeF s σ 1 []).2).2<=_
     rw[cnt_one]
     omega
  ·exact hz
theorem condF_bnd:∀ n,Bnd s (condF s n)
 | 0=>cond_bnd none (fun _ h=>by cases h)
 | n+1=>cond_bnd (some (condF s n)) (fun g h=>by cases h;exact condF_bnd n)
theorem condF_size (n:Nat) (σ:St) (ho:OkS s σ) (hs:s.size<=2097152):SmallC (condF s n σ).1∧cnt (condF s n σ).1<=100000000:=by
 obtain⟨a,b,_⟩:=condF_bnd n σ ho
 have hphi:phi s σ<=s.size+2:=by
  unfold phi
  split
  ·split<;>omega
  ·omega
 have hc:cnt (condF s n σ).1<=100000000:=by omega
 exact⟨small_of hs b hc,hc⟩
end
end
section
def parseC (s:ByteArray):Cd × Int × Int :=
 if 4000 < s.size then (zeroC,0,4)
 else if ¬ (condF s 100 (advF s (at0 0))).2.wr < 0 then (zeroC,(condF s 100 (advF s (at0 0))).2.wr,8)
 else if (condF s 100 (advF s (at0 0))).2.k≠0 then (zeroC,(condF s 100 (advF s (at0 0))).2.a,8)
 else if checkC (condF s 100 (advF s (at0 0))).1≠0 then (zeroC,0,checkC (condF s 100 (advF s (at0 0))).1)
 else ((condF s 100 (advF s (at0 0))).1,0,0)
def readC (s:ByteArray):Cd × Int × Int :=
 if 4000 < s.size then (zeroC,0,4)
 else if ¬ (nextR (condRF 100 ⟨wordsT s 0,-1⟩).2 101 []).2.bad < 0 then (zeroC,(nextR (condRF 100 ⟨wordsT s 0,-1⟩).2 101 []).2.bad,8)
 else if checkC (condRF 100 ⟨wordsT s 0,-1⟩).1≠0 then (zeroC,0,checkC (condRF 100 ⟨wordsT s 0,-1⟩).1)
 else ((condRF 100 ⟨wordsT s 0,-1⟩).1,0,0)
section
variable {s:ByteArray}
theorem at0_ok:OkS s (at0 0):=⟨Nat.zero_le _,Nat.zero_le _,Nat.zero_le _⟩
theorem start_ok:OkS s (advF s (at0 0)):=advF_ok at0_ok
theorem start_sim:Sim s (advF s (at0 0)) ⟨wordsT s 0,-1⟩ :=
 .inl ⟨by rw[show (advF s (at0 0)).wr=(at0 0).wr from tokF_wr s _ _];decide,(by show (-1:Int) < 0;decide),0,Nat.zero_le _,⟨rfl,rfl,rfl,rfl⟩,rfl⟩
theorem tok_end {i:Nat} (hi:i<=s.size):(advF s (at0 i)).k=0↔((wordsT s i).headD zeroW).k=101:=by
 constructor
 ·intro h
  rw[wordsT_eq]
  dsimp only
  rw[if_pos h]
  rfl
 ·intro h
  apply Classical.byContradiction
  intro h0
  obtain⟨d,r,hw,_,_,_,_,hrest⟩:=tok_word hi
  by_cases h4:(advF s (at0 i)).k=4
  ·rw[wordsT_eq] at h
   dsimp only at h
   rw[if_neg h0,if_pos h4] at h
   exact absurd h (by show ¬ (33:UInt8)=101;decide)
  ·rw[hw] at h
   exact (hrest h0 h4).1 h
theorem read_parse:readC s=parseC s:=by
 unfold readC parseC
 by_cases hbig:4000 < s.size
 ·rw[if_pos hbig,if_pos hbig]
 rw[if_neg hbig,if_neg hbig]
 obtain⟨h1,h2⟩:=cond_sim 100 _ _ (start_sim (s:=s))
 have hcs:=(condF_on (s:=s) 100 (advF s (at0 0)))
 generalize condF s 100 (advF s (at0 0))=r at *
 generalize condRF 100 ⟨wordsT s 0,-1⟩=q at *
 obtain⟨c,σ⟩:=r
 obtain⟨d,τ⟩:=q
 dsimp only at *
 by_cases hw:σ.wr < 0
 rotate_left
 ·have hb:¬ τ.bad < 0:=by rw[<-h1.neg];exact hw
  have he:τ.bad=σ.wr:=by
   rcases h1 with ⟨x,_⟩|⟨_,x⟩
   ·exact absurd x hw
   ·exact x
  rw[nextR_bad hb,if_pos hw,if_pos hb,he]
 have hb:=h1.neg.1 hw
 have hcd:=h2 hw
 subst hcd
 have hpl:=hd_place h1 hw
 have hend:σ.k=0↔τ.hd.k=101:=by
  rcases h1 with ⟨_,_,i,hi,⟨ek,_⟩,hl⟩|⟨x,_⟩
  ·rw[ek,tok_end hi]
   unfold Rs.hd
   rw[hl]
  ·exact absurd hw x
 have nw:¬ ¬ σ.wr < 0:=fun x=>x hw
 have nb:¬ ¬ τ.bad < 0:=fun x=>x hb
 rw[if_neg nw]
 by_cases hk:σ.k=0
 ·have h101:=hend.1 hk
  have hnx:(nextR τ 101 []).2=τ:=by
   unfold nextR
   rw[if_neg nb,if_neg (by rintro (x|x);exact x h101;exact x.1 rfl)]
   exact if_neg (fun x=>x h101)
  have nk:¬ σ.k≠0:=fun x=>x hk
  rw[hnx,if_neg nb,if_neg nk]
 ·have h101:τ.hd.k≠101:=fun e=>hk (hend.2 e)
  have hnx:(nextR τ 101 []).2=⟨τ.l,τ.hd.a⟩:=by
   unfold nextR
   rw[if_neg nb,if_pos (.inl h101)]
  rw[hnx,if_pos (show ¬ (τ.hd.a:Int) < 0 by omega),if_pos hk]
  show (zeroC,(τ.hd.a:Int),(8:Int))=_
  rw[hpl]
end
end
end Go.Proofs.YtmnafaaijglnfaaGreatDoor
