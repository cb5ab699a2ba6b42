/- slices.Insert over offers: one offer laid into an owned row. -/
import Derived.Test.YtmnafaaijglnfaaGreatDoorMg31
import Derived.Lib.Overlaps
import Derived.Shelf.RegionOpenPlain
import Derived.Lib.JoinLaws
import Derived.Lib.AppendZeros
namespace Go.Proofs.YtmnafaaijglnfaaGreatDoor
open Go.RowKit
theorem splice_in {α:Type} (xs tail cs:List α) (p:Nat) (hp:p<=xs.length) (ht:cs.length<=tail.length) :
 splice (splice (xs++tail) (p+cs.length) (xs.drop p)) p cs=xs.take p++cs++xs.drop p++tail.drop cs.length:=by
 have e1:splice (xs++tail) (p+cs.length) (xs.drop p)=(xs++tail).take (p+cs.length)++(xs.drop p++tail.drop cs.length):=by
  unfold splice
  rw[List.length_drop,show p+cs.length+(xs.length - p)=xs.length+cs.length by omega,List.drop_append]
  simp
 have hl:((xs++tail).take (p+cs.length)).length=p+cs.length:=by simp;omega
 have e2:((xs++tail).take (p+cs.length)).take p=xs.take p:=by
  rw[List.take_take,Nat.min_eq_left (Nat.le_add_right _ _),List.take_append_of_le_length hp]
 rw[e1]
 unfold splice
 rw[List.take_append_of_le_length (by omega),e2,List.drop_append,hl,Nat.sub_self,List.drop_zero,List.drop_eq_nil_of_le (by omega)]
 simp
theorem splice_new {α:Type} (xs rest cs:List α) (p:Nat) (hp:p<=xs.length) (_ht:cs.length+(xs.length - p)<=rest.length) :
 splice (splice (xs.take p++rest) p cs) (p+cs.length) (xs.drop p)=xs.take p++cs++xs.drop p++rest.drop (cs.length+(xs.length - p)):=by
 have hl:(xs.take p).length=p:=by simp;omega
 have e1:splice (xs.take p++rest) p cs=xs.take p++(cs++rest.drop cs.length):=by
  unfold splice
  rw[List.take_append_of_le_length (by omega),List.take_of_length_le (by omega),List.drop_append,hl,show p+cs.length - p=cs.length by omega,List.drop_eq_nil_of_le (by omega)]
  simp
 have hl2:(xs.take p++cs).length=p+cs.length:=by rw[List.length_append,hl]
 have e2:splice ((xs.take p++cs)++rest.drop cs.length) (p+cs.length) (xs.drop p)=(xs.take p++cs)++(xs.drop p++rest.drop (cs.length+(xs.length - p))):=by
  unfold splice
  rw[List.take_append_of_le_length (by omega),List.take_of_length_le (by omega),List.length_drop,List.drop_append,hl2,show List.drop (p+cs.length+(xs.length - p)) (xs.take p++cs)=[] from List.drop_eq_nil_of_le (by omega),List.nil_append,List.drop_drop,
   show cs.length+(p+cs.length+(xs.length - p) - (p+cs.length))=cs.length+(xs.length - p) by omega]
 rw[e1,<-List.append_assoc,e2]
 simp only[List.append_assoc]
section
variable {P:Program}
theorem step_copyN {ops:Array Oper} {o:Oper} {a:Act} {w:World} {K:Act->World->Prop} {Q:Exit->Act->World->Prop} {E:Prop}
 (hg:o.guard=none) (d x:Operand) (dT sT:TypeId) (hop:o.op=Op.call { callee:=Callee.builtin Builtin.copy,args:=#[d,x],argTypes:=#[dT,sT] })
 (v u:Value) (hd:a.eval d=v) (hx:a.eval x=u) {v':Value} {w':World} (hr:(Builtin.copy_ #[dT,sT] o.type #[v,u]).run P w=.ok v' w') (hK:K (a.put o.dst v') w') :
 if Region.wanted o (yielded ops a.tmps)=true then Oper.wp P o a w K Q else E:=by
 have hw:Region.wanted o (yielded ops a.tmps)=true:=by simp[Region.wanted,hg]
 rw[if_pos hw]
 unfold Oper.wp
 simp[execOp,hop,resolve,invoke,builtin,hd,hx,hr,Result.andThen]
 exact hK
theorem wpList_copyE (w:World) {ops:Array Oper} {rest:List Oper} {o:Oper} {a:Act} {Q:Exit->Act->World->Prop} (hgd:o.guard=none) (d s:Operand) (t t':TypeId)
 (ho:o.op=.call { callee:=.builtin .copy,args:=#[d,s],argTypes:=#[t,t'] }) (v u:Value) (hd:a.eval d=v) (hs:a.eval s=u) {v':Value} {w':World}
 (hr:(Builtin.copy_ #[t,t'] o.type #[v,u]).run P w=.ok v' w') (h:wpList P ops Q rest (a.put o.dst v') w'):wpList P ops Q (o::rest) a w:=by
 refine wpList_plain hgd fun K hK=>?_
 unfold Oper.wp
 simp[execOp,ho,resolve,invoke,builtin,hd,hs,hr,Result.andThen]
 exact hK _ _ h
end
theorem infOffer:(Tryz.prog.info? 66).map (fun i=>(i.zero,i.size,i.bytes))=some (some (.agg #[.string ⟨#[]⟩,.int .i64 0,.int .i64 0,.int .i64 0,.string ⟨#[]⟩,.string ⟨#[]⟩,.slice none 0 0,.bool false,.int .i64 0,.string ⟨#[]⟩,.string ⟨#[]⟩,.slice none 0 0,.int .i64 0,.int .i64 0,.int .i64 0,.bool false,.bool false,.bool false]),18,200):=by kernel_rfl
theorem szOffer:(Tryz.prog.info? 66).map (·.size)=some 18:=by kernel_rfl
set_option maxHeartbeats 4000000 in
set_option maxRecDepth 100000 in
theorem InsO_shift (g cap n i vb vc:Nat) (cur cs:List Value) (w:World) (hi:i < n) (hroom:n+1<=cap) (hcap:cap<=9223372036854775807) (hn:n<=100000000) (hvb:vb≠g)
 (hg:w.heap[g]?=some (.cells cur.toArray 66 (0,0))) (hcur:cur.length=cap * 18) (hv:Blk w vb 66 cs.toArray) (hcs:cs.length=18) (h1c:∀ v∈cur.take (n * 18),v.oneCell'=true) (h1v:∀ v∈cs,v.oneCell'=true) :
 Calls Tryz.prog 45 #[.slice (some ⟨g,0,none⟩) n cap,.int .i64 i,.slice (some ⟨vb,0,none⟩) 1 vc] w fun e w' =>
  e=.returned (.slice (some ⟨g,0,none⟩) (n+1) cap) ∧
  ∃ u:World,u=w.drew∧w'=(u.setRow g (splice cur ((i+1) * 18) ((cur.take (n * 18)).drop (i * 18))).toArray).setRow g (splice (splice cur ((i+1) * 18) ((cur.take (n * 18)).drop (i * 18))) (i * 18) cs).toArray:=by
 have hov:∀ lb cb,(callFunc 111 #[.slice (some ⟨vb,0,none⟩) 1 vc,.slice (some ⟨g,(i+1) * 18,none⟩) lb cb]).run Tryz.prog w=.ok (.value (.bool false)) w:=fun lb cb=>by
  rw[run_callFunc_extern Tryz.func111 (by kernel_rfl) (by kernel_rfl) (by kernel_rfl) (e:=Extern.SlicesOverlaps.overlaps #[57,57] #[4]) (by kernel_rfl),
   Lib.run_overlaps_apart w 57 4 66 (by kernel_rfl) 18 (fun w=>by kernel_rfl) ⟨vb,0,none⟩ ⟨g,(i+1) * 18,none⟩ 1 vc lb cb hvb 66 66 18 (cap * 18)
    (by unfold World.shape?;rw[show w.heap[vb]?=_ from hv];simp[hcs]) (by unfold World.shape?;dsimp only;rw[hg];simp[hcur]) (by omega) (by unfold World.frozen?;dsimp only;rw[show w.heap[vb]?=_ from hv];simp) (by unfold World.frozen?;dsimp only;rw[show w.heap[vb]?=_ from hv];simp)]
  rfl
 have hz1:¬ ((i:Int)=(n:Int)):=by omega
 have hw1:IntKind.i64.wrap ((n:Int)+1)=((n+1:Nat):Int):=by rw[IntKind.wrap_i64];omega
 have hw2:IntKind.i64.wrap ((i:Int)+1)=((i+1:Nat):Int):=by rw[IntKind.wrap_i64];omega
 have hq1:¬ ((cap:Int) < ((n+1:Nat):Int)):=by omega
 have hb2:¬ (cap=i+1):=by omega
 have hb1:(0:Int)<=(i:Int)+1:=by omega
 have hin:i<=n:=by omega
 have hb3:(i:Int)<=(n:Int)+1:=by omega
 have htn:((i:Int)+1).toNat=i+1:=by omega
 have mixed:Tryz.prog.follows Departure.mixedOrders=true:=by kernel_rfl
 have hb4:¬ (cap=i):=by omega
 obtain⟨D,hD⟩:∃ D,D=(cur.take (n * 18)).drop (i * 18):=⟨_,rfl⟩
 have hDl:D.length=(n - i) * 18:=by rw[hD,List.length_drop,List.length_take,hcur];omega
 rw[<-hD]
 have hgc:∀ j,w.cell? ⟨g,j,none⟩=cur[j]?:=fun j=>by unfold World.cell?;dsimp only;rw[hg];simp
 have hDs:∀ j u,D[j]?=some u->w.cell? ⟨g,i * 18+j,none⟩=some u:=fun j u hu=>by
  rw[hD,List.getElem?_drop,List.getElem?_take] at hu
  split at hu
  ·rw[hgc];exact hu
  ·cases hu
 obtain⟨R1,hR1⟩:∃ R1,R1=splice cur ((i+1) * 18) D:=⟨_,rfl⟩
 have hR1l:R1.length=cap * 18:=by rw[hR1,length_splice _ _ _ (by omega),hcur]
 rw[<-hR1]
 have hcp1:∀ ty dc sc,(Builtin.copy_ #[57,57] ty #[.slice (some ⟨g,(i+1) * 18,none⟩) (n - i) dc,.slice (some ⟨g,i * 18,none⟩) (n+1 - i) sc]).run Tryz.prog w.drew=.ok (goInt ((n - i:Nat):Int)) (w.drew.setRow g R1.toArray):=fun ty dc sc=>by
  have h:=run_copy_rowN (P:=Tryz.prog) w.drew 57 57 ty 66 g ((i+1) * 18) (n - i) dc ⟨g,i * 18,none⟩ (n+1 - i) sc (n - i) 18 cur.toArray 66 D (by kernel_rfl) szOffer hg (by simp only[Nat.min_def];split<;>omega) hDl
   (fun j u hu=>by rw[Addr.add_lit];exact hDs j u hu) (by simp only[List.size_toArray];omega) (fun u hu=>h1c u (by rw[hD] at hu;exact List.mem_of_mem_drop hu))
  rw[h,hR1]
  simp only[splice,List.append_assoc]
 have hcp2:∀ ty dc,(Builtin.copy_ #[57,57] ty #[.slice (some ⟨g,i * 18,none⟩) (n+1 - i) dc,.slice (some ⟨vb,0,none⟩) 1 vc]).run Tryz.prog (w.drew.setRow g R1.toArray)=.ok (goInt ((1:Nat):Int)) ((w.drew.setRow g R1.toArray).setRow g (splice R1 (i * 18) cs).toArray):=fun ty dc=>by
  have h:=run_copy_rowN (P:=Tryz.prog) (w.drew.setRow g R1.toArray) 57 57 ty 66 g (i * 18) (n+1 - i) dc ⟨vb,0,none⟩ 1 vc 1 18 R1.toArray 66 cs (by kernel_rfl) szOffer (setRow_heap w.drew g _ _ _ _ hg) (by simp only[Nat.min_def];split<;>omega) (by omega)
   (fun j u hu=>by rw[Addr.add_lit,cell_setRow_other _ _ _ _ (by dsimp only;omega),Nat.zero_add];exact (hv.cell j).trans (by simpa using hu)) (by simp only[List.size_toArray];omega) h1v
  rw[h]
  simp only[splice,List.append_assoc]
 clear hR1 hD hDs hDl hR1l h1c
 go_enter Tryz.func45,Tryz.ntmps45
 go_wp2_with (simp only[hov])
 go_region_law_o (refine step_copyN rfl _ _ 57 57 rfl _ _ (by simp[Act.eval,Act.put]) (by simp[Act.eval,Act.put]) (hcp1 _ _ _) ?_)
 go_wp2_with (at_builtin;refine wpList_copyE _ rfl _ _ 57 57 rfl _ _ rfl rfl (hcp2 _ _) ?_)
 go_ret
 exact⟨rfl,_,rfl,rfl⟩
set_option maxHeartbeats 4000000 in
set_option maxRecDepth 100000 in
theorem InsO_grow (g cap n i vb vc:Nat) (cur cs:List Value) (w:World) (hi:i < n) (hnc:n<=cap) (hroom:cap < n+1) (hn:n<=100000000) (hgl:g < w.heap.size)
 (hg:w.heap[g]?=some (.cells cur.toArray 66 (0,0))) (hcur:cur.length=cap * 18) (hv:Blk w vb 66 cs.toArray) (hcs:cs.length=18) (h1c:∀ v∈cur.take (n * 18),v.oneCell'=true) (h1v:∀ v∈cs,v.oneCell'=true) :
 Calls Tryz.prog 45 #[.slice (some ⟨g,0,none⟩) n cap,.int .i64 i,.slice (some ⟨vb,0,none⟩) 1 vc] w fun e w' =>
  ∃ (C:Nat) (rest:List Value),e=.returned (.slice (some ⟨w.heap.size,0,none⟩) (n+1) C)∧n+1<=C∧C<=maxLen∧rest.length=(C - i) * 18∧Ext w w' ∧
   w'.heap[w.heap.size]?=some (.cells (splice (splice (cur.take (i * 18)++rest) (i * 18) cs) ((i+1) * 18) ((cur.take (n * 18)).drop (i * 18))).toArray 66 (0,0)):=by
 obtain⟨I,hI,hz0,hz1,hz2⟩:=info_parts infOffer
 have hgc:∀ j,w.cell? ⟨g,j,none⟩=cur[j]?:=fun j=>by unfold World.cell?;dsimp only;rw[hg];simp
 obtain⟨D,hD⟩:∃ D,D=(cur.take (n * 18)).drop (i * 18):=⟨_,rfl⟩
 have hDl:D.length=(n - i) * 18:=by rw[hD,List.length_drop,List.length_take,hcur];omega
 rw[<-hD]
 have hDs:∀ j u,D[j]?=some u->w.cell? ⟨g,i * 18+j,none⟩=some u:=fun j u hu=>by
  rw[hD,List.getElem?_drop,List.getElem?_take] at hu
  split at hu
  ·rw[hgc];exact hu
  ·cases hu
 have hD1:∀ u∈D,u.oneCell'=true:=fun u hu=>h1c u (by rw[hD] at hu;exact List.mem_of_mem_drop hu)
 obtain⟨O,hO⟩:∃ O,O=cur.take (i * 18):=⟨_,rfl⟩
 have hOl:O.length=i * 18:=by rw[hO,List.length_take,hcur];omega
 rw[<-hO]
 have hvl:=hv.lt
 have hvN:vb≠w.heap.size:=by omega
 have hgN:g≠w.heap.size:=by omega
 obtain⟨N,hN⟩:∃ N,N=w.heap.size:=⟨_,rfl⟩
 have hadd:∀ a j:Nat,(⟨g,a,none⟩:Addr).add j=⟨g,a+j,none⟩:=fun a j=>Addr.add_lit ..
 have hap:∃ (C:Nat) (rest:List Value),n+1<=C∧C<=maxLen∧rest.length=(C - i) * 18∧∀ ty,(Builtin.append_ #[57,3] ty #[.slice (some ⟨g,0,none⟩) i cap,.int .i64 ((n:Int)+1 - (i:Int))]).run Tryz.prog w=.ok (.slice (some ⟨N,0,none⟩) (n+1) C) (w.drew.alloc (.cells (O++rest).toArray 66)):=by
  obtain⟨C,rest,h1,h2,h3,h4⟩:=run_append_zeros (P:=Tryz.prog) w 57 3 0 66 I _ 18 (by kernel_rfl) (by kernel_rfl) hI hz0 hz1 (by rfl) (by omega) (by omega) ⟨g,0,none⟩ i cap (n+1 - i) (by omega) (by omega) (by omega) (by omega) O hOl (fun j u hu=>by
   rw[hadd,Nat.zero_add,hgc]
   rw[hO,List.getElem?_take] at hu
   split at hu
   ·exact hu
   ·cases hu)
  have e1:i+(n+1 - i)=n+1:=by omega
  have e2:((n+1 - i:Nat):Int)=(n:Int)+1 - (i:Int):=by omega
  rw[e1] at h1
  rw[e1,e2,<-hN] at h4
  exact⟨C,rest,h1,h2,h3,fun ty=>h4⟩
 obtain⟨C,rest,hC1,hC2,hrl,hap⟩:=hap
 have hC3:C<=9223372036854775807:=by unfold maxLen at hC2;omega
 obtain⟨R0,hR0⟩:∃ R0,R0=O++rest:=⟨_,rfl⟩
 have hR0l:R0.length=C * 18:=by rw[hR0,List.length_append,hOl,hrl];omega
 rw[<-hR0] at hap
 obtain⟨R1,hR1⟩:∃ R1,R1=splice R0 (i * 18) cs:=⟨_,rfl⟩
 have hR1l:R1.length=C * 18:=by rw[hR1,length_splice _ _ _ (by omega),hR0l]
 obtain⟨R2,hR2⟩:∃ R2,R2=splice R1 ((i+1) * 18) D:=⟨_,rfl⟩
 have hcpA:∀ (W:World),W.heap=(w.alloc (.cells R0.toArray 66)).heap->∀ ty dc,(Builtin.copy_ #[57,57] ty #[.slice (some ⟨N,i * 18,none⟩) (n+1 - i) dc,.slice (some ⟨vb,0,none⟩) 1 vc]).run Tryz.prog W=.ok (goInt ((1:Nat):Int)) (W.setRow N R1.toArray):=fun W hW ty dc=>by
  have hb:Blk W N 66 R0.toArray:=by unfold Blk;rw[hW,hN];exact heap_alloc_new w _
  have hs:Blk W vb 66 cs.toArray:=by unfold Blk;rw[hW];exact hv.alloc _
  have h:=run_copy_rowN (P:=Tryz.prog) W 57 57 ty 66 N (i * 18) (n+1 - i) dc ⟨vb,0,none⟩ 1 vc 1 18 R0.toArray 66 cs (by kernel_rfl) szOffer hb (by simp only[Nat.min_def];split<;>omega) (by omega)
   (fun j u hu=>by rw[Addr.add_lit,Nat.zero_add];exact (hs.cell j).trans (by simpa using hu)) (by simp only[List.size_toArray];omega) h1v
  rw[h,hR1]
  simp only[splice,List.append_assoc]
 have hcpB:∀ (W:World),W.heap=((w.alloc (.cells R0.toArray 66)).setRow N R1.toArray).heap->∀ ty dc sc,(Builtin.copy_ #[57,57] ty #[.slice (some ⟨N,(i+1) * 18,none⟩) (n - i) dc,.slice (some ⟨g,i * 18,none⟩) (n - i) sc]).run Tryz.prog W=.ok (goInt ((n - i:Nat):Int)) (W.setRow N R2.toArray):=fun W hW ty dc sc=>by
  have hb0:(w.alloc (.cells R0.toArray 66)).heap[N]?=some (.cells R0.toArray 66 (0,0)):=by rw[hN];exact heap_alloc_new w _
  have hb:Blk W N 66 R1.toArray:=by unfold Blk;rw[hW];exact setRow_heap _ N _ _ _ _ hb0
  have hs:Blk W g 66 cur.toArray:=by
   unfold Blk
   rw[hW,setRow_other _ _ _ _ (by omega)]
   exact Blk.alloc (w:=w) hg _
  have h:=run_copy_rowN (P:=Tryz.prog) W 57 57 ty 66 N ((i+1) * 18) (n - i) dc ⟨g,i * 18,none⟩ (n - i) sc (n - i) 18 R1.toArray 66 D (by kernel_rfl) szOffer hb (by simp only[Nat.min_def];split<;>omega) hDl
   (fun j u hu=>by
     rw[hadd]
     have:=hDs j u hu
     rw[hgc] at this
     exact (hs.cell _).trans (by simpa using this)) (by simp only[List.size_toArray];omega) hD1
  rw[h,hR2]
  simp only[splice,List.append_assoc]
 suffices h:Calls Tryz.prog 45 #[.slice (some ⟨g,0,none⟩) n cap,.int .i64 i,.slice (some ⟨vb,0,none⟩) 1 vc] w fun e w'=>e=.returned (.slice (some ⟨N,0,none⟩) (n+1) C)∧Ext w w'∧w'.heap[N]?=some (.cells R2.toArray 66 (0,0)) from
  h.mono fun e w' ⟨h1,h2,h3⟩=>⟨C,rest,by rw[h1,hN],hC1,hC2,hrl,h2,by rw[<-hR0,<-hR1,<-hR2,<-hN];exact h3⟩
 have hz1:¬ ((i:Int)=(n:Int)):=by omega
 have hw1:IntKind.i64.wrap ((n:Int)+1)=(n:Int)+1:=by rw[IntKind.wrap_i64];omega
 have hw2:IntKind.i64.wrap ((i:Int)+1)=(i:Int)+1:=by rw[IntKind.wrap_i64];omega
 have hw3:IntKind.i64.wrap ((n:Int)+1 - (i:Int))=(n:Int)+1 - (i:Int):=by rw[IntKind.wrap_i64];omega
 have hq1:(cap:Int) < (n:Int)+1:=by omega
 have hb1:(0:Int)<=(i:Int)+1:=by omega
 have hin:i<=n:=by omega
 have hb3:(i:Int)<=(n:Int)+1:=by omega
 have htn:((i:Int)+1).toNat=i+1:=by omega
 have hGi:¬ (C=i):=by omega
 have hGim:¬ (C=i+1):=by omega
 have hci:¬ (cap=i):=by omega
 have hend:∀ W:World,Ext w W->W.heap=((w.alloc (.cells R0.toArray 66)).setRow N R1.toArray).heap->Ext w (W.setRow N R2.toArray)∧(W.setRow N R2.toArray).heap[N]?=some (.cells R2.toArray 66 (0,0)):=fun W hx hW=>by
  have hb0:(w.alloc (.cells R0.toArray 66)).heap[N]?=some (.cells R0.toArray 66 (0,0)):=by rw[hN];exact heap_alloc_new w _
  exact⟨below_setRow hx (by omega) _,setRow_heap _ N R1.toArray _ _ _ (by rw[hW];exact setRow_heap _ N _ _ _ _ hb0)⟩
 have hx1:Ext w ((w.drew.alloc (.cells R0.toArray 66)).setRow N R1.toArray):=below_setRow ((Ext.refl w).drew.alloc _) (by omega) _
 have mixed:Tryz.prog.follows Departure.mixedOrders=true:=by kernel_rfl
 have hcpA1:=hcpA (w.alloc (.cells R0.toArray 66)).drew rfl
 subst hN
 have hcpB1:=hcpB ((w.alloc (.cells R0.toArray 66)).drew.setRow w.heap.size R1.toArray).drew rfl
 clear hcpA hcpB h1c hR2 hR1 hR1l hR0 hR0l hDs hDl hD hO hOl hD1 hgc hz0 hz1 hz2 hI
 go_enter Tryz.func45,Tryz.ntmps45
 go_wp2_with (at_builtin;refine Lib.wpList_append_run _ rfl _ _ _ _ rfl _ _ rfl rfl _ _ (hap _) ?_)
 go_region_law_o (refine step_copyN rfl _ _ 57 57 rfl _ _ (by simp[Act.eval,Act.put]) (by simp[Act.eval,Act.put]) (hcpB1 _ _ _) ?_)
 go_wp2
 go_ret
 exact⟨rfl,hend _ hx1.drew rfl⟩
set_option maxHeartbeats 4000000 in
set_option maxRecDepth 100000 in
theorem InsO_any (B:Nat) (v:Value) (n i:Nat) (xs:List Value) (vb vc:Nat) (cs:List Value) (w:World) (hown:w.ownsRow B 66 18 v n xs) (hi:i<=n) (hn:n<=100000000) (hBw:B<=w.heap.size)
 (hv:Blk w vb 66 cs.toArray) (hvb:v.ownBlock≠some vb) (hcs:cs.length=18) (h1x:∀ u∈xs,u.oneCell'=true) (h1v:∀ u∈cs,u.oneCell'=true) :
 Calls Tryz.prog 45 #[v,.int .i64 i,.slice (some ⟨vb,0,none⟩) 1 vc] w fun e w' =>
  ∃ v',e=.returned v'∧w'.ownsRow B 66 18 v' (n+1) (xs.take (i * 18)++cs++xs.drop (i * 18))∧w.grownBy w' v.ownBlock∧(v'.ownBlock=v.ownBlock∨∀ k,v'.ownBlock=some k->w.heap.size<=k):=by
 by_cases hin:i=n
 ·subst hin
  have hxl:=hown.1
  have e1:xs.take (i * 18)++cs++xs.drop (i * 18)=xs++cs:=by
   rw[List.take_of_length_le (by omega),List.drop_eq_nil_of_le (by omega),List.append_nil]
  rw[e1]
  obtain⟨I,hI,hz0,hz1,hz2⟩:=info_parts infOffer
  have hns:∀ j u,cs[j]?=some u->w.cell? ((⟨vb,0,none⟩:Addr).add j)=some u:=fun j u hu=>by rw[Addr.add_lit,Nat.zero_add];exact (hv.cell j).trans (by simpa using hu)
  have hb1:cs.length=1 * 18:=by omega
  have hb2:i+1<=maxLen:=by simp only[maxLen];omega
  have hb3:(i+1) * 200<=140737488355328:=by omega
  have hown2:=hown
  rcases hown.2 with ⟨rfl,rfl⟩|⟨g,cap,cur,rfl,hgb,hg,hnc,hcm,hcur,hxs⟩
  ·go_enter Tryz.func45,Tryz.ntmps45
   go_wp2_with (at_builtin;refine wpList_append_lies _ rfl _ _ 57 rfl B 66 I _ 18 200 rfl hI hz0 hz1 hz2 (by rfl) (by decide) _ _ xs rfl hown2 ⟨vb,0,none⟩ 1 vc cs rfl hb1 hns h1v (by decide) hb2 hb3 hBw w.heap.size rfl ?_;intro g' cap' w' hown' hgr hnew hlt)
   go_ret
   exact⟨_,rfl,hown',hgr,hnew.elim (fun h=>.inl h.symm) fun h=>.inr fun k hk=>by rw[<-h];exact Nat.le_of_eq (Option.some.inj hk)⟩
  ·go_enter Tryz.func45,Tryz.ntmps45
   go_wp2_with (at_builtin;refine wpList_append_lies _ rfl _ _ 57 rfl B 66 I _ 18 200 rfl hI hz0 hz1 hz2 (by rfl) (by decide) _ _ xs rfl hown2 ⟨vb,0,none⟩ 1 vc cs rfl hb1 hns h1v (by decide) hb2 hb3 hBw w.heap.size rfl ?_;intro g' cap' w' hown' hgr hnew hlt)
   all_goals
    go_ret
    exact⟨_,rfl,hown',hgr,hnew.elim (fun h=>.inl h.symm) fun h=>.inr fun k hk=>by rw[<-h];exact Nat.le_of_eq (Option.some.inj hk)⟩
 ·obtain⟨hxl,h⟩:=hown
  rcases h with ⟨rfl,rfl⟩|⟨g,cap,cur,rfl,hgb,hg,hnc,hcm,hcur,hxs⟩
  ·omega
  ·have hgl:g < w.heap.size:=Blk.lt (cs:=cur) (t:=66) hg
   have hvg:vb≠g:=fun e=>hvb (by rw[e];rfl)
   have hcl:cur.toList.length=cap * 18:=by simpa using hcur
   have hsp:cur.toList=xs++cur.toList.drop (n * 18):=by rw[<-hxs,List.take_append_drop]
   have hD:(cur.toList.take (n * 18)).drop (i * 18)=xs.drop (i * 18):=by rw[hxs]
   have hp:i * 18<=xs.length:=by omega
   by_cases hr:n+1<=cap
   ·refine (InsO_shift g cap n i vb vc cur.toList cs w (by omega) hr (by unfold maxLen at hcm;omega) hn hvg (by simpa using hg) hcl hv hcs (by rw[hxs];exact h1x) h1v).mono ?_
    rintro e w' ⟨rfl,u,rfl,hw'⟩
    have hu:w.drew.heap[g]?=some (.cells cur 66 (0,0)):=hg
    have htl:cs.length<=(cur.toList.drop (n * 18)).length:=by rw[List.length_drop,hcl];omega
    have hfin:splice (splice cur.toList ((i+1) * 18) ((cur.toList.take (n * 18)).drop (i * 18))) (i * 18) cs=(xs.take (i * 18)++cs++xs.drop (i * 18))++(cur.toList.drop (n * 18)).drop cs.length:=by
     rw[hD,show (i+1) * 18=i * 18+cs.length by omega]
     conv=>lhs;rw[hsp]
     exact splice_in _ _ _ _ hp htl
    rw[hfin] at hw'
    have hrow:w'.heap[g]?=some (.cells ((xs.take (i * 18)++cs++xs.drop (i * 18))++(cur.toList.drop (n * 18)).drop cs.length).toArray 66 (0,0)):=by
     rw[hw']
     exact setRow_heap _ g _ _ _ _ (setRow_heap _ g _ _ _ _ hu)
    have hl:(xs.take (i * 18)++cs++xs.drop (i * 18)).length=(n+1) * 18:=by simp;omega
    refine⟨_,rfl,⟨hl,.inr ⟨g,cap,_,rfl,hgb,hrow,hr,hcm,?_,?_⟩⟩,?_,.inl rfl⟩
    ·rw[List.size_toArray,List.length_append,hl,List.length_drop,List.length_drop,hcl];omega
    ·rw[List.toList_toArray,List.take_append_of_le_length (by omega),List.take_of_length_le (by omega)]
    ·rw[hw']
     refine⟨rfl,rfl,rfl,by simp[World.setRow],fun k hk hne=>?_⟩
     have hkg:k≠g:=fun e=>hne (by rw[e];rfl)
     rw[setRow_other _ _ _ _ hkg,setRow_other _ _ _ _ hkg]
     rfl
   ·refine (InsO_grow g cap n i vb vc cur.toList cs w (by omega) hnc (by omega) hn hgl (by simpa using hg) hcl hv hcs (by rw[hxs];exact h1x) h1v).mono ?_
    rintro e w' ⟨C,rest,rfl,hC1,hC2,hrl,hx,hrow⟩
    have htk:cur.toList.take (i * 18)=xs.take (i * 18):=by rw[<-hxs,List.take_take,Nat.min_eq_left (by omega)]
    have hrl2:cs.length+(xs.length - i * 18)<=rest.length:=by rw[hrl,hxl,hcs];omega
    rw[htk,hD,show (i+1) * 18=i * 18+cs.length by omega,splice_new _ _ _ _ hp hrl2] at hrow
    have hl:(xs.take (i * 18)++cs++xs.drop (i * 18)).length=(n+1) * 18:=by simp;omega
    refine⟨_,rfl,⟨hl,.inr ⟨w.heap.size,C,_,rfl,hBw,hrow,hC1,hC2,?_,?_⟩⟩,⟨hx.os,hx.tape,hx.output,hx.size,fun k hk _=>hx.block k hk⟩,.inr fun k hk=>?_⟩
    ·rw[List.size_toArray,List.length_append,hl,List.length_drop,hrl];omega
    ·rw[List.toList_toArray,List.take_append_of_le_length (by omega),List.take_of_length_le (by omega)]
    ·exact Nat.le_of_eq (Option.some.inj hk)
end Go.Proofs.YtmnafaaijglnfaaGreatDoor
