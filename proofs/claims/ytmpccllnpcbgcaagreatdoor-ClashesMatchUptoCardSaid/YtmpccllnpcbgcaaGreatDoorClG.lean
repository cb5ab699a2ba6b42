/- Equal clashes; rows of texts in a row of the call's own. -/
import Derived.Test.YtmpccllnpcbgcaaGreatDoorPk02
import Derived.Test.YtmpccllnpcbgcaaGreatDoorPk04
import Derived.Test.YtmpccllnpcbgcaaGreatDoorPk08
import Derived.Test.YtmpccllnpcbgcaaGreatDoorPk09
import Derived.Test.YtmpccllnpcbgcaaGreatDoorPk10
import Derived.Test.YtmpccllnpcbgcaaGreatDoorPk17
import Derived.Test.YtmpccllnpcbgcaaGreatDoorPk19
import Derived.Test.YtmpccllnpcbgcaaGreatDoorPk22
import Derived.Test.YtmpccllnpcbgcaaGreatDoorPk25
import Derived.Test.YtmpccllnpcbgcaaGreatDoorPk27
import Derived.Test.YtmpccllnpcbgcaaGreatDoorPk29
import Derived.Test.YtmpccllnpcbgcaaGreatDoorPk32
import Derived.Test.YtmpccllnpcbgcaaGreatDoorPk35
import Derived.Test.YtmpccllnpcbgcaaGreatDoorPk39
import Derived.Test.YtmpccllnpcbgcaaGreatDoorPk40
import Derived.Test.YtmpccllnpcbgcaaGreatDoorPk41
import Derived.Test.YtmpccllnpcbgcaaGreatDoorMono
import Derived.Test.YtmpccllnpcbgcaaGreatDoorPaL
import Derived.Test.YtmpccllnpcbgcaaGreatDoorPaB
import Derived.Test.YtmpccllnpcbgcaaGreatDoorPaD
import Derived.Test.YtmpccllnpcbgcaaGreatDoorClA
import Derived.Test.YtmpccllnpcbgcaaGreatDoorClB
import Derived.Test.YtmpccllnpcbgcaaGreatDoorClC
import Derived.Test.YtmpccllnpcbgcaaGreatDoorClE
import Derived.Test.YtmpccllnpcbgcaaGreatDoorProg
import Derived.Test.YtmpccllnpcbgcaaGreatDoorShelf
import Derived.Test.YtmpccllnpcbgcaaGreatDoorShelfG
import Derived.Lib.Split
import Derived.Lib.IndexBytes
import Derived.Lib.ItoaLen
import Derived.WalkKit
import Derived.WalkSpells
import Derived.WalkLawsBesides
import Derived.LoopTactic
import Derived.Outline
import Derived.Lib.Hide
import Derived.Lib.LaidTab
import Derived.Lib.ConvBytes
import Derived.Lib.ItoaNum
import Derived.WalkSmall
import Derived.Sort.Grow
import Derived.Deep.QuietTactic
import Derived.BigQuiet
import Derived.Lib.Replace
import Derived.Lib.SplitLaws
import Derived.Laws.AppendOwn
import Derived.Laws.OwnMore
import Derived.Maps.AppendAt
import Derived.OwnWalk
import Derived.Lib.Join
import Derived.StillTail
import Derived.Lib.AtoiAll
import Derived.Lib.Small
import Derived.Lib.Bytealg
import Derived.Deep.DeepCutAuto
import Derived.Deep.AppendLies
import Derived.Deep.RegionHeld3
import Derived.Deep.RegionLaw
import Derived.MapKept
import Derived.Laws.StructEq
import Derived.Deep.LoopGhost
import Derived.Laws.Cells
import Derived.Maps.OwnSet
import Derived.Maps.StringElems
import Derived.Sort.Walk0
import Derived.Sort.KeysCollected
import Derived.Lib.SlicesCompact
import Derived.Maps.RangeWalk
import Derived.Deep.Upon
import Derived.ArgAppend
import Derived.Laws.MakeOwn
import Derived.DeepKeys3
import Derived.OrdersHeld
import Derived.RegionTactic
import GoSem.Step
import Derived.Calls
import Derived.Shelf.SlSortCmp.WholeK
import Derived.Shelf.SlSortCmp.NoneTotal
import Derived.Laws.EntriesVeiled
import Derived.Lib.SliceRun
import Derived.Laws.IdiomCopy
namespace Go.Proofs.YtmpccllnpcbgcaaGreatDoor
open Go.RowKit
theorem items_sameC {p:Pkg} {V:Nat->Bool} (h:pkErr p=0) {L1 L2:List Itm} (a:ItemsS p.comps V L1) (b:L2.Perm (itemsK p.comps (fun i=>memB (p.comps.getD i zeroP).name (markL p.comps V)) p.comps.length)) (c:L2.Pairwise fun x y=>itCmp x y<=0):L2=L1:=by
 have hnd:=(pk_ok h).2
 have h1:=firstI_ne h (placesErr p.comps) (by simp)
 have h2:=firstI_ne h1 (twiceErr (itemsL p.comps)) (by simp)
 refine ItemsS.same (spots_nodup h2) (ItemsS.congr (V:=fun i=>memB (p.comps.getD i zeroP).name (markL p.comps V)) ⟨b,c⟩ fun i hi=>?_) a
 rw[Bool.eq_iff_iff,memB_iff]
 exact markK_name hnd hi
abbrev claV (c:Cla):Value:=.agg #[.int .i64 c.one,.int .i64 c.two,.int .i64 c.kind,.string c.name]
section
set_option maxRecDepth 100000
theorem run_eqcl (d:Nat) (u v:Cla) (w:World):(Op.equalIn (d+2) 120 (claV u) (claV v)).run Tryz.prog w=.ok (decide (u=v)) w:=by
 obtain⟨u0,u1,u2,u3⟩:=u
 obtain⟨v0,v1,v2,v3⟩:=v
 dsimp only[claV]
 rw[run_equalIn_agg w (d+1) 120 _ _ (by kernel_rfl) (by kernel_rfl)]
 simp only[Cla.mk.injEq]
 go_simp
 simp only[str_eq]
 repeat' split
 all_goals simp_all
end
theorem run_neqcl (u v:Cla) (w:World):(binOp .neq 120 (claV u) (claV v)).run Tryz.prog w=.ok (.bool (!decide (u=v))) w:=by
 rw[run_neq_struct,run_eqcl 9998]
 rfl
theorem load_Cl {w:World} {b o:Nat} {l:List Cla} (h:∀ j u,(l.flatMap claC)[j]?=some u->w.cell? ⟨b,o+j,none⟩=some u) {k:Nat} (hk:k < l.length):(loadVar 120 ⟨b,o+k * 4,none⟩).run Tryz.prog w=.ok (claV l[k]) w:=by
 refine load_cellsT (z:=4) (by kernel_rfl) (by kernel_rfl) [.int .i64 l[k].one,.int .i64 l[k].two,.int .i64 l[k].kind,.string l[k].name] rfl fun j v hj=>?_
 have hj4:j < 4:=by
  rcases Nat.lt_or_ge j 4 with h|h
  ·exact h
  ·rw[List.getElem?_eq_none (by simpa using h)] at hj;cases hj
 rw[Nat.add_assoc]
 exact h _ v (by rw[flat_get (f:=claC) (m:=4) claC_length l k j hk hj4];exact hj)
set_option maxHeartbeats 4000000 in
set_option maxRecDepth 100000 in
theorem EqualCl_same (A1 A2:Option Addr) (c1 c2 n:Nat) (l:List Cla) (w:World) (hn:l.length=n) (h1:RdCl w A1 l) (h2:RdCl w A2 l) (hl:n<=1000000000000) :
 Calls Tryz.prog 68 #[.slice A1 n c1,.slice A2 n c2] w fun e w'=>e=.returned (.bool true)∧Ext w w':=by
 have hne:((n:Int) != (n:Int))=false:=by rw[bne,beq_iff_eq.2 rfl];rfl
 have HN:=Hy hn;have H1:=Hy h1;have H2:=Hy h2
 clear hn h1 h2
 go_enter Tryz.func68,Tryz.ntmps68
 go_wp2
 go_loopw [13] (fun t wr=>∃ j:Nat,t=.int .i64 j∧j<=n∧Ext w wr) (fun t _=>n - (intOf t).toNat)
 case atStart=>exact⟨0,by go_num,Nat.zero_le _,Ext.refl w⟩
 case round =>
  obtain⟨j,rfl,hj,hxr⟩:=hrel
  by_cases hlt:j < n
  ·have hk:j < l.length:=by rw[HN.out];exact hlt
   have hne0:l≠[]:=fun e=>by rw[e] at hk;exact absurd hk (Nat.not_lt_zero _)
   obtain⟨g1,o1,rfl,k1⟩:=H1.out hne0
   obtain⟨g2,o2,rfl,k2⟩:=H2.out hne0
   have L1:=fun W (h:Ext wr W)=>load_Cl (w:=W) (fun i u hu=>(hxr.trans h).cell (k1 i u hu)) hk
   have L2:=fun W (h:Ext wr W)=>load_Cl (w:=W) (fun i u hu=>(hxr.trans h).cell (k2 i u hu)) hk
   generalize l[j]=t at *
   have hne2:∀ W,(binOp .neq 120 (claV t) (claV t)).run Tryz.prog W=.ok (.bool false) W:=fun W=>by
    rw[run_neqcl,decide_eq_true rfl]
    rfl
   obtain⟨t0,t1,t2,t3⟩:=t
   dsimp only[claV] at L1 L2 hne2
   clear k1 k2
   go_wp2_with fail
   refine wp_region_ext (by kernel_rfl) (by kernel_rfl) ?_
   repeat (first|go_big_quiet_skip|(refine wpQuiet_load (by rfl) _ _ rfl _ rfl _ L1 ?_)|(refine wpQuiet_load (by rfl) _ _ rfl _ rfl _ L2 ?_)|(refine wpQuiet_step (fun K hK=>?_);go_simp;first|(refine hK _ ?_;clear hK K)|(apply Exists.intro;refine⟨fun wq hwq=>?_,hK _ ?_⟩;(obtain⟨hqc,hqf⟩:=hwq.cells;have hqs:=hwq.size;(try go_simp);first|rfl|((first|rw[if_neg (by omega)]|rw[if_pos (by omega)]);(try go_simp);rfl)|((first|exact hne2 _|(rw[hne2];rfl)|(simp only[hne2];rfl)|(simp[hne2];done))));clear hK K)))
   refine wpQuiet_nil ?_
   intro wN hxN
   obtain⟨hcN,hfN⟩:=hxN.cells
   have hsN:=hxN.size
   go_wp2
   go_roundw
   case rel=>exact⟨j+1,by go_num,hlt,hxr.trans hxN⟩
   case measure=>simp[intOf];omega
  ·go_wp2
   go_ret
   exact⟨rfl,hxr⟩
theorem info_texts:(Tryz.prog.info? 77).map (fun i=>(i.zero,i.size,i.bytes))=some (some (.slice none 0 0),1,24):=by kernel_rfl
theorem RdX.farC {C:Nat->Prop} {w w':World} {A:Option Addr} {v:List ByteArray} (h:RdX w A v) (hx:ExtC C w w') (hC:∀ g o,A=some ⟨g,o,none⟩->¬ C g):RdX w' A v:=fun hn=>by
 obtain⟨b,o,e,hX⟩:=h hn
 exact⟨b,o,e,fun k hk=>hx.cell (hC b o e) (hX k hk)⟩
def ClsK (w:World) (M:Nat->List ByteArray) (V:Nat->Value) (s:Value) (k:Nat):Prop :=
 ∀ j,j < k->∃ A c,V j=.slice A (M j).length c∧(M j).length<=c∧RdX w A (M j)∧∀ g o,A=some ⟨g,o,none⟩->some g≠s.ownBlock∧g < w.heap.size
theorem ClsK.ext {w w':World} {M:Nat->List ByteArray} {V:Nat->Value} {s:Value} {k:Nat} (h:ClsK w M V s k) (hx:Ext w w'):ClsK w' M V s k:=fun j hj=>by
 obtain⟨A,c,h1,h2,h3,h4⟩:=h j hj
 exact⟨A,c,h1,h2,h3.ext hx,fun g o e=>⟨(h4 g o e).1,Nat.lt_of_lt_of_le (h4 g o e).2 hx.size⟩⟩
theorem ClsK.app {w w':World} {M:Nat->List ByteArray} {V:Nat->Value} {s s':Value} {k H:Nat} (h:ClsK w M V s k) (hg:w.grownBy w' s.ownBlock) (hat:s'.ownBlock=s.ownBlock∨s'.ownBlock=some H) (hH:w.heap.size<=H):ClsK w' M V s' k:=fun j hj=>by
 obtain⟨A,c,h1,h2,h3,h4⟩:=h j hj
 refine⟨A,c,h1,h2,h3.farC (grown_extO hg) fun g o e=>(h4 g o e).1,fun g o e=>⟨?_,Nat.lt_of_lt_of_le (h4 g o e).2 hg.size⟩⟩
 rcases hat with e2|e2
 ·rw[e2];exact (h4 g o e).1
 ·rw[e2];intro e3;injection e3 with e3;have:=(h4 g o e).2;omega
theorem ClsK.next {w w':World} {M:Nat->List ByteArray} {V:Nat->Value} {s:Value} {k B:Nat} (h:ClsK w M V s k) (hx:Ext w w') (hs:∀ g,s.ownBlock=some g->g < w.heap.size) {v:Value} {L:List ByteArray} (hB:w.heap.size<=B) (hown:w'.ownsRow B 9 1 v L.length (L.map Value.string)) (hM:M k=L) :
 ClsK w' M (fun j=>if j=k then v else V j) s (k+1):=fun j hj=>by
 dsimp only
 by_cases e:j=k
 ·subst e
  rw[if_pos rfl,hM]
  obtain⟨A,c,rfl,hc,hr⟩:=RdX.own hown rfl
  refine⟨A,c,rfl,hc,hr,fun g o e=>?_⟩
  subst e
  have h1:=hown.lt g rfl
  exact⟨fun e2=>by have:=hs g e2.symm;omega,h1.2⟩
 ·rw[if_neg e]
  exact h.ext hx j (by omega)
theorem vals_next (V:Nat->Value) (k:Nat) (v:Value):(List.range (k+1)).map (fun j=>if j=k then v else V j)=(List.range k).map V++[v]:=by
 rw[List.range_succ,List.map_append]
 congr 1
 ·refine List.map_congr_left fun j hj=>?_
  rw[if_neg (by have:=List.mem_range.1 hj;omega)]
 ·simp
theorem ClsK.rows {w:World} {M:Nat->List ByteArray} {V:Nat->Value} {s:Value} {n B:Nat} (h:ClsK w M V s n) (hown:w.ownsRow B 77 1 s n ((List.range n).map V)):∃ A c,s=.slice A n c∧RdXX w A ((List.range n).map M):=by
 rcases Nat.eq_zero_or_pos n with h0|h0
 ·subst h0
  rcases hown.2 with ⟨rfl,_⟩|⟨g,cap,cur,rfl,_⟩
  ·exact⟨none,0,rfl,fun e=>absurd rfl e⟩
  ·exact⟨_,_,rfl,fun e=>absurd rfl e⟩
 ·obtain⟨g,c,rfl,_,_,_,hc⟩:=own_form hown h0
  refine⟨_,c,rfl,fun _=>⟨g,0,rfl,fun q hq=>?_⟩⟩
  have hq2:q < n:=by simpa using hq
  obtain⟨A,c',h1,h2,h3,_⟩:=h q hq2
  have e:((List.range n).map M)[q]=M q:=by simp
  rw[e,Nat.zero_add]
  exact⟨A,c',hc q _ (by simp[hq2,h1]),h2,h3⟩
theorem step_appT {ops:Array Oper} {o:Oper} {a:Act} {K:Act->World->Prop} {Q:Exit->Act->World->Prop} {E:Prop} (wr:World) (u:Value) (hu:u.oneCell'=true) (hgd:o.guard=none) (s x:Operand)
 (ho:o.op=.call { callee:=.builtin .append,args:=#[s,x],argTypes:=#[112,112] })
 (B:Nat) (v:Value) (n:Nat) (xs:List Value) (hs:a.eval s=v) (hown:wr.ownsRow B 77 1 v n xs)
 (c gA:Nat) (hx:a.eval x=.slice (some ⟨gA,0,none⟩) 1 c) (hgA:wr.heap.size=gA) (hn:n<=100000000000) (hbase:B<=wr.heap.size)
 (h:∀ v' w',w'.ownsRow B 77 1 v' (n+1) (xs++[u])->(wr.alloc (.cells #[u] 77)).grownBy w' v.ownBlock->(v'.ownBlock=v.ownBlock∨v'.ownBlock=some (wr.heap.size+1))->K (a.put o.dst v') w') :
 if Region.wanted o (yielded ops a.tmps)=true then Oper.wp Tryz.prog o a (wr.alloc (.cells #[u] 77)) K Q else E:=by
 have hw:Region.wanted o (yielded ops a.tmps)=true:=by simp[Region.wanted,hgd]
 rw[if_pos hw]
 obtain⟨i',hi,hz0,hz1,hz2⟩:=info_parts info_texts
 have hnew:=Blk.new wr 77 #[u]
 obtain⟨v',w',hr,h2,h3,_,h5⟩:=run_append_own_at (P:=Tryz.prog) (wr.alloc (.cells #[u] 77)) B 112 o.type 77 i' _ 1 24 Tryz.underlying112 hi hz0 hz1 hz2 rfl (by decide) v n _ (hown.alloc _) ⟨wr.heap.size,0,none⟩ 1 c [u] rfl (fun t y hy=>by
  have hadd:(⟨wr.heap.size,0,none⟩:Addr).add t=⟨wr.heap.size,t,none⟩:=by unfold Addr.add;split<;>simp_all
  rw[hadd,hnew.cell]
  simpa using hy) (fun y hy=>by rw[List.mem_singleton] at hy;rw[hy];exact hu) (by simp only[maxLen];omega) (by omega) (by simp;omega)
 rw[<-hgA] at hx
 unfold Oper.wp execOp
 simp only[ho,resolve,invoke,builtin,Sem.run_bind,Sem.run_pure,Result.andThen_ok,List.map_toArray,List.map_cons,List.map_nil,hs,hx,hr]
 exact h v' w' h2 h3 (by rw[World.size_alloc] at h5;exact h5)
end Go.Proofs.YtmpccllnpcbgcaaGreatDoor
