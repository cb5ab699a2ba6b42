/- slices.Insert over installed packages: one laid into an owned row. (Printed by gen/insi.py out of XInsB.) -/
import Derived.Test.YtmnafaaijglnfaaGreatDoorOm27
namespace Go.Proofs.YtmnafaaijglnfaaGreatDoor
open Go.RowKit
theorem infInst:(Tryz.prog.info? 178).map (fun i=>(i.zero,i.size,i.bytes))=some (some (.agg #[.string ⟨#[]⟩,.int .i64 0,.int .i64 0,.int .i64 0,.string ⟨#[]⟩,.slice none 0 0,.bool false]),7,88):=by kernel_rfl
theorem szInst:(Tryz.prog.info? 178).map (·.size)=some 7:=by kernel_rfl
set_option maxHeartbeats 4000000 in
set_option maxRecDepth 100000 in
theorem InsI_shift (g cap n i vb vc:Nat) (cur cs:List Value) (w:World) (hi:i < n) (hroom:n+1<=cap) (hcap:cap<=9223372036854775807) (hn:n<=100000000) (hvb:vb≠g)
 (hg:w.heap[g]?=some (.cells cur.toArray 178 (0,0))) (hcur:cur.length=cap * 7) (hv:Blk w vb 178 cs.toArray) (hcs:cs.length=7) (h1c:∀ v∈cur.take (n * 7),v.oneCell'=true) (h1v:∀ v∈cs,v.oneCell'=true) :
 Calls Tryz.prog 143 #[.slice (some ⟨g,0,none⟩) n cap,.int .i64 i,.slice (some ⟨vb,0,none⟩) 1 vc] w fun e w' =>
  e=.returned (.slice (some ⟨g,0,none⟩) (n+1) cap) ∧
  ∃ u:World,u=w.drew∧w'=(u.setRow g (splice cur ((i+1) * 7) ((cur.take (n * 7)).drop (i * 7))).toArray).setRow g (splice (splice cur ((i+1) * 7) ((cur.take (n * 7)).drop (i * 7))) (i * 7) cs).toArray:=by
 have hov:∀ lb cb,(callFunc 213 #[.slice (some ⟨vb,0,none⟩) 1 vc,.slice (some ⟨g,(i+1) * 7,none⟩) lb cb]).run Tryz.prog w=.ok (.value (.bool false)) w:=fun lb cb=>by
  rw[run_callFunc_extern Tryz.func213 (by kernel_rfl) (by kernel_rfl) (by kernel_rfl) (e:=Extern.SlicesOverlaps.overlaps #[92,92] #[4]) (by kernel_rfl),
   Lib.run_overlaps_apart w 92 4 178 (by kernel_rfl) 7 (fun w=>by kernel_rfl) ⟨vb,0,none⟩ ⟨g,(i+1) * 7,none⟩ 1 vc lb cb hvb 178 178 7 (cap * 7)
    (by unfold World.shape?;rw[show w.heap[vb]?=_ from hv];simp[hcs]) (by unfold World.shape?;dsimp only;rw[hg];simp[hcur]) (by omega) (by unfold World.frozen?;dsimp only;rw[show w.heap[vb]?=_ from hv];simp) (by unfold World.frozen?;dsimp only;rw[show w.heap[vb]?=_ from hv];simp)]
  rfl
 have hz1:¬ ((i:Int)=(n:Int)):=by omega
 have hw1:IntKind.i64.wrap ((n:Int)+1)=((n+1:Nat):Int):=by rw[IntKind.wrap_i64];omega
 have hw2:IntKind.i64.wrap ((i:Int)+1)=((i+1:Nat):Int):=by rw[IntKind.wrap_i64];omega
 have hq1:¬ ((cap:Int) < ((n+1:Nat):Int)):=by omega
 have hb2:¬ (cap=i+1):=by omega
 have hb1:(0:Int)<=(i:Int)+1:=by omega
 have hin:i<=n:=by omega
 have hb3:(i:Int)<=(n:Int)+1:=by omega
 have htn:((i:Int)+1).toNat=i+1:=by omega
 have mixed:Tryz.prog.follows Departure.mixedOrders=true:=by kernel_rfl
 have hb4:¬ (cap=i):=by omega
 obtain⟨D,hD⟩:∃ D,D=(cur.take (n * 7)).drop (i * 7):=⟨_,rfl⟩
 have hDl:D.length=(n - i) * 7:=by rw[hD,List.length_drop,List.length_take,hcur];omega
 rw[<-hD]
 have hgc:∀ j,w.cell? ⟨g,j,none⟩=cur[j]?:=fun j=>by unfold World.cell?;dsimp only;rw[hg];simp
 have hDs:∀ j u,D[j]?=some u->w.cell? ⟨g,i * 7+j,none⟩=some u:=fun j u hu=>by
  rw[hD,List.getElem?_drop,List.getElem?_take] at hu
  split at hu
  ·rw[hgc];exact hu
  ·cases hu
 obtain⟨R1,hR1⟩:∃ R1,R1=splice cur ((i+1) * 7) D:=⟨_,rfl⟩
 have hR1l:R1.length=cap * 7:=by rw[hR1,length_splice _ _ _ (by omega),hcur]
 rw[<-hR1]
 have hcp1:∀ ty dc sc,(Builtin.copy_ #[92,92] ty #[.slice (some ⟨g,(i+1) * 7,none⟩) (n - i) dc,.slice (some ⟨g,i * 7,none⟩) (n+1 - i) sc]).run Tryz.prog w.drew=.ok (goInt ((n - i:Nat):Int)) (w.drew.setRow g R1.toArray):=fun ty dc sc=>by
  have h:=run_copy_rowN (P:=Tryz.prog) w.drew 92 92 ty 178 g ((i+1) * 7) (n - i) dc ⟨g,i * 7,none⟩ (n+1 - i) sc (n - i) 7 cur.toArray 178 D (by kernel_rfl) szInst hg (by simp only[Nat.min_def];split<;>omega) hDl
   (fun j u hu=>by rw[Addr.add_lit];exact hDs j u hu) (by simp only[List.size_toArray];omega) (fun u hu=>h1c u (by rw[hD] at hu;exact List.mem_of_mem_drop hu))
  rw[h,hR1]
  simp only[splice,List.append_assoc]
 have hcp2:∀ ty dc,(Builtin.copy_ #[92,92] ty #[.slice (some ⟨g,i * 7,none⟩) (n+1 - i) dc,.slice (some ⟨vb,0,none⟩) 1 vc]).run Tryz.prog (w.drew.setRow g R1.toArray)=.ok (goInt ((1:Nat):Int)) ((w.drew.setRow g R1.toArray).setRow g (splice R1 (i * 7) cs).toArray):=fun ty dc=>by
  have h:=run_copy_rowN (P:=Tryz.prog) (w.drew.setRow g R1.toArray) 92 92 ty 178 g (i * 7) (n+1 - i) dc ⟨vb,0,none⟩ 1 vc 1 7 R1.toArray 178 cs (by kernel_rfl) szInst (setRow_heap w.drew g _ _ _ _ hg) (by simp only[Nat.min_def];split<;>omega) (by omega)
   (fun j u hu=>by rw[Addr.add_lit,cell_setRow_other _ _ _ _ (by dsimp only;omega),Nat.zero_add];exact (hv.cell j).trans (by simpa using hu)) (by simp only[List.size_toArray];omega) h1v
  rw[h]
  simp only[splice,List.append_assoc]
 clear hR1 hD hDs hDl hR1l h1c
 go_enter Tryz.func143,Tryz.ntmps143
 go_wp2_with (simp only[hov])
 go_region_law_o (refine step_copyN rfl _ _ 92 92 rfl _ _ (by simp[Act.eval,Act.put]) (by simp[Act.eval,Act.put]) (hcp1 _ _ _) ?_)
 go_wp2_with (at_builtin;refine wpList_copyE _ rfl _ _ 92 92 rfl _ _ rfl rfl (hcp2 _ _) ?_)
 go_ret
 exact⟨rfl,_,rfl,rfl⟩
set_option maxHeartbeats 4000000 in
set_option maxRecDepth 100000 in
theorem InsI_grow (g cap n i vb vc:Nat) (cur cs:List Value) (w:World) (hi:i < n) (hnc:n<=cap) (hroom:cap < n+1) (hn:n<=100000000) (hgl:g < w.heap.size)
 (hg:w.heap[g]?=some (.cells cur.toArray 178 (0,0))) (hcur:cur.length=cap * 7) (hv:Blk w vb 178 cs.toArray) (hcs:cs.length=7) (h1c:∀ v∈cur.take (n * 7),v.oneCell'=true) (h1v:∀ v∈cs,v.oneCell'=true) :
 Calls Tryz.prog 143 #[.slice (some ⟨g,0,none⟩) n cap,.int .i64 i,.slice (some ⟨vb,0,none⟩) 1 vc] w fun e w' =>
  ∃ (C:Nat) (rest:List Value),e=.returned (.slice (some ⟨w.heap.size,0,none⟩) (n+1) C)∧n+1<=C∧C<=maxLen∧rest.length=(C - i) * 7∧Ext w w' ∧
   w'.heap[w.heap.size]?=some (.cells (splice (splice (cur.take (i * 7)++rest) (i * 7) cs) ((i+1) * 7) ((cur.take (n * 7)).drop (i * 7))).toArray 178 (0,0)):=by
 obtain⟨I,hI,hz0,hz1,hz2⟩:=info_parts infInst
 have hgc:∀ j,w.cell? ⟨g,j,none⟩=cur[j]?:=fun j=>by unfold World.cell?;dsimp only;rw[hg];simp
 obtain⟨D,hD⟩:∃ D,D=(cur.take (n * 7)).drop (i * 7):=⟨_,rfl⟩
 have hDl:D.length=(n - i) * 7:=by rw[hD,List.length_drop,List.length_take,hcur];omega
 rw[<-hD]
 have hDs:∀ j u,D[j]?=some u->w.cell? ⟨g,i * 7+j,none⟩=some u:=fun j u hu=>by
  rw[hD,List.getElem?_drop,List.getElem?_take] at hu
  split at hu
  ·rw[hgc];exact hu
  ·cases hu
 have hD1:∀ u∈D,u.oneCell'=true:=fun u hu=>h1c u (by rw[hD] at hu;exact List.mem_of_mem_drop hu)
 obtain⟨O,hO⟩:∃ O,O=cur.take (i * 7):=⟨_,rfl⟩
 have hOl:O.length=i * 7:=by rw[hO,List.length_take,hcur];omega
 rw[<-hO]
 have hvl:=hv.lt
 have hvN:vb≠w.heap.size:=by omega
 have hgN:g≠w.heap.size:=by omega
 obtain⟨N,hN⟩:∃ N,N=w.heap.size:=⟨_,rfl⟩
 have hadd:∀ a j:Nat,(⟨g,a,none⟩:Addr).add j=⟨g,a+j,none⟩:=fun a j=>Addr.add_lit ..
 have hap:∃ (C:Nat) (rest:List Value),n+1<=C∧C<=maxLen∧rest.length=(C - i) * 7∧∀ ty,(Builtin.append_ #[92,3] ty #[.slice (some ⟨g,0,none⟩) i cap,.int .i64 ((n:Int)+1 - (i:Int))]).run Tryz.prog w=.ok (.slice (some ⟨N,0,none⟩) (n+1) C) (w.drew.alloc (.cells (O++rest).toArray 178)):=by
  obtain⟨C,rest,h1,h2,h3,h4⟩:=run_append_zeros (P:=Tryz.prog) w 92 3 0 178 I _ 7 (by kernel_rfl) (by kernel_rfl) hI hz0 hz1 (by rfl) (by omega) (by omega) ⟨g,0,none⟩ i cap (n+1 - i) (by omega) (by omega) (by omega) (by omega) O hOl (fun j u hu=>by
   rw[hadd,Nat.zero_add,hgc]
   rw[hO,List.getElem?_take] at hu
   split at hu
   ·exact hu
   ·cases hu)
  have e1:i+(n+1 - i)=n+1:=by omega
  have e2:((n+1 - i:Nat):Int)=(n:Int)+1 - (i:Int):=by omega
  rw[e1] at h1
  rw[e1,e2,<-hN] at h4
  exact⟨C,rest,h1,h2,h3,fun ty=>h4⟩
 obtain⟨C,rest,hC1,hC2,hrl,hap⟩:=hap
 have hC3:C<=9223372036854775807:=by unfold maxLen at hC2;omega
 obtain⟨R0,hR0⟩:∃ R0,R0=O++rest:=⟨_,rfl⟩
 have hR0l:R0.length=C * 7:=by rw[hR0,List.length_append,hOl,hrl];omega
 rw[<-hR0] at hap
 obtain⟨R1,hR1⟩:∃ R1,R1=splice R0 (i * 7) cs:=⟨_,rfl⟩
 have hR1l:R1.length=C * 7:=by rw[hR1,length_splice _ _ _ (by omega),hR0l]
 obtain⟨R2,hR2⟩:∃ R2,R2=splice R1 ((i+1) * 7) D:=⟨_,rfl⟩
 have hcpA:∀ (W:World),W.heap=(w.alloc (.cells R0.toArray 178)).heap->∀ ty dc,(Builtin.copy_ #[92,92] ty #[.slice (some ⟨N,i * 7,none⟩) (n+1 - i) dc,.slice (some ⟨vb,0,none⟩) 1 vc]).run Tryz.prog W=.ok (goInt ((1:Nat):Int)) (W.setRow N R1.toArray):=fun W hW ty dc=>by
  have hb:Blk W N 178 R0.toArray:=by unfold Blk;rw[hW,hN];exact heap_alloc_new w _
  have hs:Blk W vb 178 cs.toArray:=by unfold Blk;rw[hW];exact hv.alloc _
  have h:=run_copy_rowN (P:=Tryz.prog) W 92 92 ty 178 N (i * 7) (n+1 - i) dc ⟨vb,0,none⟩ 1 vc 1 7 R0.toArray 178 cs (by kernel_rfl) szInst hb (by simp only[Nat.min_def];split<;>omega) (by omega)
   (fun j u hu=>by rw[Addr.add_lit,Nat.zero_add];exact (hs.cell j).trans (by simpa using hu)) (by simp only[List.size_toArray];omega) h1v
  rw[h,hR1]
  simp only[splice,List.append_assoc]
 have hcpB:∀ (W:World),W.heap=((w.alloc (.cells R0.toArray 178)).setRow N R1.toArray).heap->∀ ty dc sc,(Builtin.copy_ #[92,92] ty #[.slice (some ⟨N,(i+1) * 7,none⟩) (n - i) dc,.slice (some ⟨g,i * 7,none⟩) (n - i) sc]).run Tryz.prog W=.ok (goInt ((n - i:Nat):Int)) (W.setRow N R2.toArray):=fun W hW ty dc sc=>by
  have hb0:(w.alloc (.cells R0.toArray 178)).heap[N]?=some (.cells R0.toArray 178 (0,0)):=by rw[hN];exact heap_alloc_new w _
  have hb:Blk W N 178 R1.toArray:=by unfold Blk;rw[hW];exact setRow_heap _ N _ _ _ _ hb0
  have hs:Blk W g 178 cur.toArray:=by
   unfold Blk
   rw[hW,setRow_other _ _ _ _ (by omega)]
   exact Blk.alloc (w:=w) hg _
  have h:=run_copy_rowN (P:=Tryz.prog) W 92 92 ty 178 N ((i+1) * 7) (n - i) dc ⟨g,i * 7,none⟩ (n - i) sc (n - i) 7 R1.toArray 178 D (by kernel_rfl) szInst hb (by simp only[Nat.min_def];split<;>omega) hDl
   (fun j u hu=>by
     rw[hadd]
     have:=hDs j u hu
     rw[hgc] at this
     exact (hs.cell _).trans (by simpa using this)) (by simp only[List.size_toArray];omega) hD1
  rw[h,hR2]
  simp only[splice,List.append_assoc]
 suffices h:Calls Tryz.prog 143 #[.slice (some ⟨g,0,none⟩) n cap,.int .i64 i,.slice (some ⟨vb,0,none⟩) 1 vc] w fun e w'=>e=.returned (.slice (some ⟨N,0,none⟩) (n+1) C)∧Ext w w'∧w'.heap[N]?=some (.cells R2.toArray 178 (0,0)) from
  h.mono fun e w' ⟨h1,h2,h3⟩=>⟨C,rest,by rw[h1,hN],hC1,hC2,hrl,h2,by rw[<-hR0,<-hR1,<-hR2,<-hN];exact h3⟩
 have hz1:¬ ((i:Int)=(n:Int)):=by omega
 have hw1:IntKind.i64.wrap ((n:Int)+1)=(n:Int)+1:=by rw[IntKind.wrap_i64];omega
 have hw2:IntKind.i64.wrap ((i:Int)+1)=(i:Int)+1:=by rw[IntKind.wrap_i64];omega
 have hw3:IntKind.i64.wrap ((n:Int)+1 - (i:Int))=(n:Int)+1 - (i:Int):=by rw[IntKind.wrap_i64];omega
 have hq1:(cap:Int) < (n:Int)+1:=by omega
 have hb1:(0:Int)<=(i:Int)+1:=by omega
 have hin:i<=n:=by omega
 have hb3:(i:Int)<=(n:Int)+1:=by omega
 have htn:((i:Int)+1).toNat=i+1:=by omega
 have hGi:¬ (C=i):=by omega
 have hGim:¬ (C=i+1):=by omega
 have hci:¬ (cap=i):=by omega
 have hend:∀ W:World,Ext w W->W.heap=((w.alloc (.cells R0.toArray 178)).setRow N R1.toArray).heap->Ext w (W.setRow N R2.toArray)∧(W.setRow N R2.toArray).heap[N]?=some (.cells R2.toArray 178 (0,0)):=fun W hx hW=>by
  have hb0:(w.alloc (.cells R0.toArray 178)).heap[N]?=some (.cells R0.toArray 178 (0,0)):=by rw[hN];exact heap_alloc_new w _
  exact⟨below_setRow hx (by omega) _,setRow_heap _ N R1.toArray _ _ _ (by rw[hW];exact setRow_heap _ N _ _ _ _ hb0)⟩
 have hx1:Ext w ((w.drew.alloc (.cells R0.toArray 178)).setRow N R1.toArray):=below_setRow ((Ext.refl w).drew.alloc _) (by omega) _
 have mixed:Tryz.prog.follows Departure.mixedOrders=true:=by kernel_rfl
 have hcpA1:=hcpA (w.alloc (.cells R0.toArray 178)).drew rfl
 subst hN
 have hcpB1:=hcpB ((w.alloc (.cells R0.toArray 178)).drew.setRow w.heap.size R1.toArray).drew rfl
 clear hcpA hcpB h1c hR2 hR1 hR1l hR0 hR0l hDs hDl hD hO hOl hD1 hgc hz0 hz1 hz2 hI
 go_enter Tryz.func143,Tryz.ntmps143
 go_wp2_with (at_builtin;refine Lib.wpList_append_run _ rfl _ _ _ _ rfl _ _ rfl rfl _ _ (hap _) ?_)
 go_region_law_o (refine step_copyN rfl _ _ 92 92 rfl _ _ (by simp[Act.eval,Act.put]) (by simp[Act.eval,Act.put]) (hcpB1 _ _ _) ?_)
 go_wp2
 go_ret
 exact⟨rfl,hend _ hx1.drew rfl⟩
set_option maxHeartbeats 4000000 in
set_option maxRecDepth 100000 in
theorem InsI_any (B:Nat) (v:Value) (n i:Nat) (xs:List Value) (vb vc:Nat) (cs:List Value) (w:World) (hown:w.ownsRow B 178 7 v n xs) (hi:i<=n) (hn:n<=100000000) (hBw:B<=w.heap.size)
 (hv:Blk w vb 178 cs.toArray) (hvb:v.ownBlock≠some vb) (hcs:cs.length=7) (h1x:∀ u∈xs,u.oneCell'=true) (h1v:∀ u∈cs,u.oneCell'=true) :
 Calls Tryz.prog 143 #[v,.int .i64 i,.slice (some ⟨vb,0,none⟩) 1 vc] w fun e w' =>
  ∃ v',e=.returned v'∧w'.ownsRow B 178 7 v' (n+1) (xs.take (i * 7)++cs++xs.drop (i * 7))∧w.grownBy w' v.ownBlock∧(v'.ownBlock=v.ownBlock∨∀ k,v'.ownBlock=some k->w.heap.size<=k):=by
 by_cases hin:i=n
 ·subst hin
  have hxl:=hown.1
  have e1:xs.take (i * 7)++cs++xs.drop (i * 7)=xs++cs:=by
   rw[List.take_of_length_le (by omega),List.drop_eq_nil_of_le (by omega),List.append_nil]
  rw[e1]
  obtain⟨I,hI,hz0,hz1,hz2⟩:=info_parts infInst
  have hns:∀ j u,cs[j]?=some u->w.cell? ((⟨vb,0,none⟩:Addr).add j)=some u:=fun j u hu=>by rw[Addr.add_lit,Nat.zero_add];exact (hv.cell j).trans (by simpa using hu)
  have hb1:cs.length=1 * 7:=by omega
  have hb2:i+1<=maxLen:=by simp only[maxLen];omega
  have hb3:(i+1) * 88<=140737488355328:=by omega
  have hown2:=hown
  rcases hown.2 with ⟨rfl,rfl⟩|⟨g,cap,cur,rfl,hgb,hg,hnc,hcm,hcur,hxs⟩
  ·go_enter Tryz.func143,Tryz.ntmps143
   go_wp2_with (at_builtin;refine wpList_append_lies _ rfl _ _ 92 rfl B 178 I _ 7 88 rfl hI hz0 hz1 hz2 (by rfl) (by decide) _ _ xs rfl hown2 ⟨vb,0,none⟩ 1 vc cs rfl hb1 hns h1v (by decide) hb2 hb3 hBw w.heap.size rfl ?_;intro g' cap' w' hown' hgr hnew hlt)
   go_ret
   exact⟨_,rfl,hown',hgr,hnew.elim (fun h=>.inl h.symm) fun h=>.inr fun k hk=>by rw[<-h];exact Nat.le_of_eq (Option.some.inj hk)⟩
  ·go_enter Tryz.func143,Tryz.ntmps143
   go_wp2_with (at_builtin;refine wpList_append_lies _ rfl _ _ 92 rfl B 178 I _ 7 88 rfl hI hz0 hz1 hz2 (by rfl) (by decide) _ _ xs rfl hown2 ⟨vb,0,none⟩ 1 vc cs rfl hb1 hns h1v (by decide) hb2 hb3 hBw w.heap.size rfl ?_;intro g' cap' w' hown' hgr hnew hlt)
   all_goals
    go_ret
    exact⟨_,rfl,hown',hgr,hnew.elim (fun h=>.inl h.symm) fun h=>.inr fun k hk=>by rw[<-h];exact Nat.le_of_eq (Option.some.inj hk)⟩
 ·obtain⟨hxl,h⟩:=hown
  rcases h with ⟨rfl,rfl⟩|⟨g,cap,cur,rfl,hgb,hg,hnc,hcm,hcur,hxs⟩
  ·omega
  ·have hgl:g < w.heap.size:=Blk.lt (cs:=cur) (t:=178) hg
   have hvg:vb≠g:=fun e=>hvb (by rw[e];rfl)
   have hcl:cur.toList.length=cap * 7:=by simpa using hcur
   have hsp:cur.toList=xs++cur.toList.drop (n * 7):=by rw[<-hxs,List.take_append_drop]
   have hD:(cur.toList.take (n * 7)).drop (i * 7)=xs.drop (i * 7):=by rw[hxs]
   have hp:i * 7<=xs.length:=by omega
   by_cases hr:n+1<=cap
   ·refine (InsI_shift g cap n i vb vc cur.toList cs w (by omega) hr (by unfold maxLen at hcm;omega) hn hvg (by simpa using hg) hcl hv hcs (by rw[hxs];exact h1x) h1v).mono ?_
    rintro e w' ⟨rfl,u,rfl,hw'⟩
    have hu:w.drew.heap[g]?=some (.cells cur 178 (0,0)):=hg
    have htl:cs.length<=(cur.toList.drop (n * 7)).length:=by rw[List.length_drop,hcl];omega
    have hfin:splice (splice cur.toList ((i+1) * 7) ((cur.toList.take (n * 7)).drop (i * 7))) (i * 7) cs=(xs.take (i * 7)++cs++xs.drop (i * 7))++(cur.toList.drop (n * 7)).drop cs.length:=by
     rw[hD,show (i+1) * 7=i * 7+cs.length by omega]
     conv=>lhs;rw[hsp]
     exact splice_in _ _ _ _ hp htl
    rw[hfin] at hw'
    have hrow:w'.heap[g]?=some (.cells ((xs.take (i * 7)++cs++xs.drop (i * 7))++(cur.toList.drop (n * 7)).drop cs.length).toArray 178 (0,0)):=by
     rw[hw']
     exact setRow_heap _ g _ _ _ _ (setRow_heap _ g _ _ _ _ hu)
    have hl:(xs.take (i * 7)++cs++xs.drop (i * 7)).length=(n+1) * 7:=by simp;omega
    refine⟨_,rfl,⟨hl,.inr ⟨g,cap,_,rfl,hgb,hrow,hr,hcm,?_,?_⟩⟩,?_,.inl rfl⟩
    ·rw[List.size_toArray,List.length_append,hl,List.length_drop,List.length_drop,hcl];omega
    ·rw[List.toList_toArray,List.take_append_of_le_length (by omega),List.take_of_length_le (by omega)]
    ·rw[hw']
     refine⟨rfl,rfl,rfl,by simp[World.setRow],fun k hk hne=>?_⟩
     have hkg:k≠g:=fun e=>hne (by rw[e];rfl)
     rw[setRow_other _ _ _ _ hkg,setRow_other _ _ _ _ hkg]
     rfl
   ·refine (InsI_grow g cap n i vb vc cur.toList cs w (by omega) hnc (by omega) hn hgl (by simpa using hg) hcl hv hcs (by rw[hxs];exact h1x) h1v).mono ?_
    rintro e w' ⟨C,rest,rfl,hC1,hC2,hrl,hx,hrow⟩
    have htk:cur.toList.take (i * 7)=xs.take (i * 7):=by rw[<-hxs,List.take_take,Nat.min_eq_left (by omega)]
    have hrl2:cs.length+(xs.length - i * 7)<=rest.length:=by rw[hrl,hxl,hcs];omega
    rw[htk,hD,show (i+1) * 7=i * 7+cs.length by omega,splice_new _ _ _ _ hp hrl2] at hrow
    have hl:(xs.take (i * 7)++cs++xs.drop (i * 7)).length=(n+1) * 7:=by simp;omega
    refine⟨_,rfl,⟨hl,.inr ⟨w.heap.size,C,_,rfl,hBw,hrow,hC1,hC2,?_,?_⟩⟩,⟨hx.os,hx.tape,hx.output,hx.size,fun k hk _=>hx.block k hk⟩,.inr fun k hk=>?_⟩
    ·rw[List.size_toArray,List.length_append,hl,List.length_drop,hrl];omega
    ·rw[List.toList_toArray,List.take_append_of_le_length (by omega),List.take_of_length_le (by omega)]
    ·exact Nat.le_of_eq (Option.some.inj hk)
end Go.Proofs.YtmnafaaijglnfaaGreatDoor
