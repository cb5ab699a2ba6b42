/- Lists of packages and of texts; the clashes of packages: pack.Clashes. The clashes of packages: pack.Clashes. -/
import Derived.Test.YtmpccllnpcbgcaaGreatDoorPk02
import Derived.Test.YtmpccllnpcbgcaaGreatDoorPk04
import Derived.Test.YtmpccllnpcbgcaaGreatDoorPk08
import Derived.Test.YtmpccllnpcbgcaaGreatDoorPk09
import Derived.Test.YtmpccllnpcbgcaaGreatDoorPk19
import Derived.Test.YtmpccllnpcbgcaaGreatDoorPk22
import Derived.Test.YtmpccllnpcbgcaaGreatDoorPk25
import Derived.Test.YtmpccllnpcbgcaaGreatDoorPk27
import Derived.Test.YtmpccllnpcbgcaaGreatDoorPk29
import Derived.Test.YtmpccllnpcbgcaaGreatDoorPk35
import Derived.Test.YtmpccllnpcbgcaaGreatDoorMono
import Derived.Test.YtmpccllnpcbgcaaGreatDoorPaL
import Derived.Test.YtmpccllnpcbgcaaGreatDoorPaB
import Derived.Test.YtmpccllnpcbgcaaGreatDoorPaD
import Derived.Test.YtmpccllnpcbgcaaGreatDoorClA
import Derived.Test.YtmpccllnpcbgcaaGreatDoorClB
import Derived.Test.YtmpccllnpcbgcaaGreatDoorProg
import Derived.Test.YtmpccllnpcbgcaaGreatDoorShelf
import Derived.Test.YtmpccllnpcbgcaaGreatDoorShelfG
import Derived.Lib.Split
import Derived.Lib.IndexBytes
import Derived.Lib.ItoaLen
import Derived.WalkKit
import Derived.WalkSpells
import Derived.WalkLawsBesides
import Derived.LoopTactic
import Derived.Outline
import Derived.Lib.Hide
import Derived.Lib.LaidTab
import Derived.Lib.ConvBytes
import Derived.Lib.ItoaNum
import Derived.WalkSmall
import Derived.Sort.Grow
import Derived.Deep.QuietTactic
import Derived.BigQuiet
import Derived.Lib.Replace
import Derived.Lib.SplitLaws
import Derived.Laws.AppendOwn
import Derived.Laws.OwnMore
import Derived.Maps.AppendAt
import Derived.OwnWalk
import Derived.Lib.Join
import Derived.StillTail
import Derived.Lib.AtoiAll
import Derived.Lib.Small
import Derived.Lib.Bytealg
import Derived.Deep.DeepCutAuto
import Derived.Deep.AppendLies
import Derived.Deep.RegionHeld3
import Derived.Deep.RegionLaw
import Derived.MapKept
import Derived.Laws.StructEq
import Derived.Deep.LoopGhost
import Derived.Laws.Cells
import Derived.Maps.OwnSet
import Derived.Maps.StringElems
import Derived.Sort.Walk0
import Derived.Sort.KeysCollected
import Derived.Lib.SlicesCompact
import Derived.Maps.RangeWalk
import Derived.Deep.Upon
import Derived.ArgAppend
import Derived.Laws.MakeOwn
import Derived.DeepKeys3
import Derived.OrdersHeld
import Derived.RegionTactic
import GoSem.Step
import Derived.Calls
import Derived.Shelf.SlSortCmp.WholeK
import Derived.Shelf.SlSortCmp.NoneTotal
namespace Go.Proofs.YtmpccllnpcbgcaaGreatDoor
open Go.RowKit
def RdXX (w:World) (A:Option Addr) (l:List (List ByteArray)):Prop:=l≠[]->∃ b o,A=some ⟨b,o,none⟩∧∀ q (h:q < l.length),∃ A' c,w.cell? ⟨b,o+q,none⟩=some (.slice A' l[q].length c)∧l[q].length<=c∧RdX w A' l[q]
theorem RdXX.ext {w w':World} {A:Option Addr} {l:List (List ByteArray)} (h:RdXX w A l) (hx:Ext w w'):RdXX w' A l:=fun hn=>by
 obtain⟨b,o,e,k⟩:=h hn
 exact⟨b,o,e,fun q hq=>by
  obtain⟨A',c,h1,h2,h3⟩:=k q hq
  exact⟨A',c,hx.cell h1,h2,h3.ext hx⟩⟩
def valsA (n:Nat) (V:Nat->Value):Array Value:=((List.range n).map V).toArray
theorem valsA_get {n:Nat} {V:Nat->Value} {k:Nat} (h:k < n):(valsA n V)[k]?=some (V k):=by
 unfold valsA
 simp[h]
theorem valsA_set (n:Nat) (V:Nat->Value) (k:Nat) (u:Value):(valsA n V).setIfInBounds k u=valsA n (fun i=>if i=k then u else V i):=by
 unfold valsA
 apply Array.ext
 ·simp
 ·intro i h1 h2
  by_cases e:i=k
  ·subst e;simp
  ·have e2:¬ k=i:=fun h=>e h.symm
   simp[e,e2]
theorem valsA_zero (n:Nat):madeCells #[Value.slice none 0 0] (n * 1)=valsA n fun _=>.slice none 0 0:=by
 apply Array.ext
 ·simp[valsA,size_madeCells]
 ·intro i h1 h2
  simp[valsA,madeCells,Nat.mod_one]
theorem info_items:(Tryz.prog.info? 79).map (fun i=>(i.zero,i.size,i.bytes))=some (some (.slice none 0 0),1,24):=by kernel_rfl
theorem make_items (n:Nat) (hn:n<=2097152) (w:World):(Instr.makeSlice 217 (.int .i64 (n:Int)) (.int .i64 (n:Int))).run Tryz.prog w=.ok (.slice (some ⟨w.heap.size,0,none⟩) n n) (w.alloc (.cells (valsA n fun _=>.slice none 0 0) 79)):=by
 obtain⟨i,hi,hz0,hz1,hz2⟩:=info_parts info_items
 have h:=run_make (P:=Tryz.prog) w 217 79 i (.slice none 0 0) Tryz.underlying217 hi hz0 .i64 .i64 (n:Int) (n:Int) (by omega) (Int.le_refl _) (by rw[hz2];omega) (by omega)
 rw[h,hz1,Int.toNat_natCast,show (Value.slice none 0 0).cells=#[.slice none 0 0] from rfl,valsA_zero]
theorem step_appCl {ops:Array Oper} {o:Oper} {a:Act} {w:World} {K:Act->World->Prop} {Q:Exit->Act->World->Prop} {E:Prop} (hgd:o.guard=none) (s x:Operand)
 (ho:o.op=.call { callee:=.builtin .append,args:=#[s,x],argTypes:=#[113,113] })
 (B:Nat) (v:Value) (l:List Cla) (hs:a.eval s=v) (hown:w.ownsRow B 120 4 v l.length (l.flatMap claC))
 (B2:Nat) (u:Value) (r:List Cla) (hx:a.eval x=u) (hown2:w.ownsRow B2 120 4 u r.length (r.flatMap claC)) (hn:l.length+r.length<=1000000000000) (hbase:B<=w.heap.size)
 (h:∀ v' w',w'.ownsRow B 120 4 v' (l++r).length ((l++r).flatMap claC)->(∀ a',Ext a' w->a'.heap.size<=B->Ext a' w')->(∀ g t' ds,Blk w g t' ds->g < B->Blk w' g t' ds)->K (a.put o.dst v') w') :
 if Region.wanted o (yielded ops a.tmps)=true then Oper.wp Tryz.prog o a w K Q else E:=by
 have hw:Region.wanted o (yielded ops a.tmps)=true:=by simp[Region.wanted,hgd]
 rw[if_pos hw]
 obtain⟨i',hi,hz0,hz1,hz2⟩:=info_parts info_cla
 obtain⟨v',w',hr,h2,h3⟩:∃ v' w',(Builtin.append_ #[113,113] o.type #[v,u]).run Tryz.prog w=.ok v' w'∧w'.ownsRow B 120 4 v' (l.length+r.length) (l.flatMap claC++r.flatMap claC)∧w.grownBy w' v.ownBlock:=by
  have hcells:=fun h0=>own_form hown2 h0
  rcases hown2.2 with ⟨rfl,hm0⟩|⟨g,cap,cur,rfl,hb,hgg,hnc,_⟩
  ·obtain rfl:r=[]:=List.eq_nil_of_length_eq_zero hm0
   obtain⟨p,c,rfl,hc⟩:∃ p cap,v=.slice p l.length cap∧l.length<=cap:=by
    rcases hown.2 with ⟨rfl,h1⟩|⟨g,cap,cur,rfl,_,_,hnc,_⟩
    ·exact⟨none,0,by rw[h1],by rw[h1];exact Nat.le_refl _⟩
    ·exact⟨_,cap,rfl,hnc⟩
   exact⟨_,w,run_append_none (P:=Tryz.prog) w _ _ _ i' Tryz.underlying113 hi p l.length c 0 hc,by simpa using hown,⟨rfl,rfl,rfl,Nat.le_refl _,fun _ _ _=>rfl⟩⟩
  ·obtain⟨v',w',hr,h2,h3,_⟩:=run_append_own_at (P:=Tryz.prog) w B 113 o.type 120 i' _ 4 40 Tryz.underlying113 hi hz0 hz1 hz2 rfl (by decide) v l.length _ hown ⟨g,0,none⟩ r.length cap (r.flatMap claC) (claC_flat r) (fun j u hu=>by
    have h0:0 < r.length:=by
     rcases Nat.eq_zero_or_pos r.length with h0|h0
     ·rw[List.eq_nil_of_length_eq_zero h0] at hu;simp at hu
     ·exact h0
    obtain⟨g',c',e,_,_,_,hc⟩:=hcells h0
    have e1:=congrArg Value.ownBlock e
    simp only[Value.ownBlock,Option.some.injEq] at e1
    subst e1
    have hadd:(⟨g,0,none⟩:Addr).add j=⟨g,j,none⟩:=by unfold Addr.add;split<;>simp_all
    rw[hadd]
    exact hc j u hu) (claC_one r) (by simp only[maxLen];omega) (by omega) hbase
   exact⟨v',w',hr,h2,h3⟩
 unfold Oper.wp execOp
 simp only[ho,resolve,invoke,builtin,Sem.run_bind,Sem.run_pure,Result.andThen_ok,List.map_toArray,List.map_cons,List.map_nil,hs,hx,hr]
 refine h v' w' ?_ (fun a' ha hB=>?_) (fun g t' ds hb hlt=>?_)
 ·rw[List.length_append,List.flatMap_append]
  exact h2
 ·exact ha.grown hown hB h3
 ·exact hb.grown hown hlt h3
def zeroPk:Pkg:=⟨⟨#[]⟩,⟨0,0,0,⟨#[]⟩⟩,⟨#[]⟩,[],[],[],[]⟩
theorem getD_pk {l:List Pkg} {k:Nat} (h:k < l.length):l.getD k zeroPk=l[k]:=by simp[List.getD,List.getElem?_eq_getElem h]
theorem getD_ch {l:List (List ByteArray)} {k:Nat} (h:k < l.length):l.getD k []=l[k]:=by simp[List.getD,List.getElem?_eq_getElem h]
noncomputable def clAt (l:List Pkg) (ch:List (List ByteArray)) (i:Nat):Int :=
 f2 (f2 (pkErr (l.getD i zeroPk)) (chErr (l.getD i zeroPk).comps (ch.getD i []))) (if anyN i (fun j=>decide ((l.getD j zeroPk).name=(l.getD i zeroPk).name))=true then 6 else 0)
noncomputable def clE (l:List Pkg) (ch:List (List ByteArray)):Int:=if l.length=ch.length then if 100 < l.length then 4 else firstN l.length (clAt l ch) else 2
def ItsK (w:World) (l:List Pkg) (ch:List (List ByteArray)) (I:Nat->List Itm) (V:Nat->Value) (k:Nat):Prop :=
 (∀ i,i < k->∃ A c,V i=.slice A (I i).length c∧(I i).length<=c∧RdI w A (I i)∧ItemsS (l.getD i zeroPk).comps (clsV (l.getD i zeroPk).comps (ch.getD i [])) (I i))∧(∀ i,(I i).length<=2097152)∧∀ i,∃ A m c,V i=.slice A m c
theorem ItsK.ext {w w':World} {l:List Pkg} {ch:List (List ByteArray)} {I:Nat->List Itm} {V:Nat->Value} {k:Nat} (h:ItsK w l ch I V k) (hx:Ext w w'):ItsK w' l ch I V k :=
 ⟨fun i hi=>by
   obtain⟨A,c,h1,h2,h3,h4⟩:=h.1 i hi
   exact⟨A,c,h1,h2,h3.ext hx,h4⟩,h.2⟩
theorem ItsK.next {w:World} {l:List Pkg} {ch:List (List ByteArray)} {I:Nat->List Itm} {V:Nat->Value} {k:Nat} (h:ItsK w l ch I V k) {A:Option Addr} {c:Nat} {L:List Itm} (h1:L.length<=c) (h2:RdI w A L) (h3:ItemsS (l.getD k zeroPk).comps (clsV (l.getD k zeroPk).comps (ch.getD k [])) L) (h4:L.length<=2097152) :
 ItsK w l ch (fun i=>if i=k then L else I i) (fun i=>if i=k then .slice A L.length c else V i) (k+1):=by
 refine⟨fun i hi=>?_,fun i=>?_,fun i=>?_⟩
 ·dsimp only
  by_cases e:i=k
  ·subst e
   rw[if_pos rfl,if_pos rfl]
   exact⟨A,c,rfl,h1,h2,h3⟩
  ·rw[if_neg e,if_neg e]
   exact h.1 i (by omega)
 ·dsimp only
  split
  ·exact h4
  ·exact h.2.1 i
 ·dsimp only
  split
  ·exact⟨_,_,_,rfl⟩
  ·exact h.2.2 i
theorem RdI.farV {w w':World} {A:Option Addr} {L:List Itm} {g n:Nat} {t:TypeId} {V:Nat->Value} (h:RdI w A L) (hx:ExtC (·=g) w w') (hb:Blk w g t (valsA n V)) (hV:∀ i,∃ A m c,V i=.slice A m c):RdI w' A L:=fun hn=>by
 obtain⟨b,o,e,hX⟩:=h hn
 have h0:0 < L.length:=List.length_pos_iff.2 hn
 have hne:¬ b=g:=fun e=>by
  subst e
  have h1:=(hX 0 h0).r0
  rw[hb.cell] at h1
  obtain⟨hi,h2⟩:=Array.getElem?_eq_some_iff.1 h1
  have h3:o+0 * 10 < n:=by simpa [valsA] using hi
  have h4:=valsA_get (V:=V) h3
  rw[h1] at h4
  obtain⟨a,m,c,e⟩:=hV (o+0 * 10)
  rw[e] at h4
  injection h4 with h4
  cases h4
 have key:∀ o,w'.cell? ⟨b,o,none⟩=w.cell? ⟨b,o,none⟩:=fun o=>by
  unfold World.cell?
  rw[hx.block b (lt_of_cell (hX 0 h0).r0) hne]
 refine⟨b,o,e,fun q hq=>?_⟩
 have r:=hX q hq
 exact⟨(key _).trans r.r0,(key _).trans r.r1,(key _).trans r.r2,(key _).trans r.r3,(key _).trans r.r4,(key _).trans r.r5,(key _).trans r.r6,(key _).trans r.r7,(key _).trans r.r8,(key _).trans r.r9⟩
theorem ItsK.put {w:World} {l:List Pkg} {ch:List (List ByteArray)} {I:Nat->List Itm} {V U:Nat->Value} {k g n:Nat} {t:TypeId} (h:ItsK w l ch I V k) (hb:Blk w g t (valsA n U)) (hU:∀ i,∃ A m c,U i=.slice A m c) (j:Nat) (u:Value):ItsK (w.setCell ⟨g,j,none⟩ u) l ch I V k :=
 ⟨fun i hi=>by
   obtain⟨A,c,h1,h2,h3,h4⟩:=h.1 i hi
   exact⟨A,c,h1,h2,h3.farV ((ExtC.refl (·=g) w).set (p:=⟨g,j,none⟩) (.inl rfl) u) hb hU,h4⟩,h.2⟩
set_option maxRecDepth 100000 in
theorem clC_any (p:Pkg) (A:Option Addr) (c:Nat) (A2:Option Addr) (c2:Nat) (A3:Option Addr) (c3:Nat) (A4:Option Addr) (c4:Nat) (g:Nat) (nm:ByteArray) (w:World) (hc:w.cell? ⟨g,0,none⟩=some (.string nm)) :
 Calls Tryz.prog 143 (#[pkV p A c A2 c2 A3 c3 A4 c4]++#[.pointer (some ⟨g,0,none⟩)]) w fun e w'=>e=.returned (.bool (decide (p.name=nm)))∧Ext w w':=by
 have hq:=dec_toL p.name nm
 generalize decide (p.name=nm)=D at *
 obtain⟨pn,⟨v1,v2,v3,va⟩,pt,pe,pb,l,pm⟩:=p
 dsimp only[pkV] at *
 generalize pe.length=l1 at *
 generalize pb.length=l2 at *
 generalize l.length=n at *
 generalize pm.length=l4 at *
 have hg:=lt_of_cell hc
 go_enter Tryz.func143,Tryz.ntmps143
 go_wp2
 go_ret
 exact⟨rfl,(Ext.refl w).alloc _⟩
theorem ContainsPk_any (fid:FuncId) (hen:∀ xs w,Sem.run Tryz.prog (callFunc fid xs) w=.ok (.enter fid xs) w) (cp:Array Value) (P:Pkg->Bool) (l:List Pkg) (A:Option Addr) (k c:Nat) (w:World) (hk:k<=l.length) (hr:RdK w A l) (hl:k<=2097152)
 (hf:∀ (q:Pkg) A1 c1 A2 c2 A3 c3 A4 c4 W,Ext w W->Calls Tryz.prog fid (#[pkV q A1 c1 A2 c2 A3 c3 A4 c4]++cp) W fun e w'=>e=.returned (.bool (P q))∧Ext W w') :
 Calls Tryz.prog 66 #[.slice A k c,.func (.func fid) #[] cp] w fun e w'=>e=.returned (.bool (anyN k fun j=>P (l.getD j zeroPk)))∧Ext w w':=by
 rcases Nat.eq_zero_or_pos k with h0|h0
 ·subst h0
  exact ContainsFuncPk_any A 0 c 0 0 (fun _=>.bool false) _ _ _ w (fun h=>by omega) hl hen (fun q hq=>by omega) (fun q hq=>by omega)
 ·obtain⟨b,o,rfl,hX⟩:=hr (fun e=>by rw[e] at hk;simp at hk;omega)
  obtain⟨V,hV⟩:∃ V:Nat->Value,∀ j (hj:j < l.length),∃ A1 c1 A2 c2 A3 c3 A4 c4,V j=pkV l[j] A1 c1 A2 c2 A3 c3 A4 c4∧PkRow w b (o+j * 10) l[j] A1 c1 A2 c2 A3 c3 A4 c4:=by
   have:∀ j,∃ v:Value,∀ hj:j < l.length,∃ A1 c1 A2 c2 A3 c3 A4 c4,v=pkV l[j] A1 c1 A2 c2 A3 c3 A4 c4∧PkRow w b (o+j * 10) l[j] A1 c1 A2 c2 A3 c3 A4 c4:=fun j=>by
    by_cases hj:j < l.length
    ·obtain⟨A1,c1,A2,c2,A3,c3,A4,c4,h⟩:=hX j hj
     exact⟨pkV l[j] A1 c1 A2 c2 A3 c3 A4 c4,fun _=>⟨A1,c1,A2,c2,A3,c3,A4,c4,rfl,h⟩⟩
    ·exact⟨.bool false,fun h=>absurd h hj⟩
   exact⟨fun j=>Classical.choose (this j),fun j hj=>Classical.choose_spec (this j) hj⟩
  refine ContainsFuncPk_any _ k c b o V _ _ _ w (fun _=>rfl) hl hen (fun q hq W hW=>?_) (fun q hq W hW=>?_)
  ·obtain⟨A1,c1,A2,c2,A3,c3,A4,c4,e,h⟩:=hV q (by omega)
   rw[e]
   exact load_Pk (h.ext hW)
  ·obtain⟨A1,c1,A2,c2,A3,c3,A4,c4,e,h⟩:=hV q (by omega)
   rw[e,getD_pk (by omega)]
   exact hf _ A1 c1 A2 c2 A3 c3 A4 c4 W hW
end Go.Proofs.YtmpccllnpcbgcaaGreatDoor
namespace Go.Proofs.YtmpccllnpcbgcaaGreatDoor
open Go.RowKit
def ClPost (l:List Pkg) (ch:List (List ByteArray)) (n:Nat) (E:Int) (w:World) (e:Ending) (w':World):Prop :=
 ∃ (A':Option Addr) (c':Nat) (X:List Cla),e=.returned (.tuple #[.slice A' X.length c',.int .i64 E])∧RdCl w' A' X∧(¬ E=0->X=[])∧(E=0->∃ I:Nat->List Itm,(∀ i,i < n->ItemsS (l.getD i zeroPk).comps (clsV (l.getD i zeroPk).comps (ch.getD i [])) (I i))∧(∀ i,(I i).length<=2097152)∧X=allX I n n)∧X.length<=1000000000000∧Ext w w'
theorem ClPost.err {l:List Pkg} {ch:List (List ByteArray)} {n:Nat} {E F:Int} {w w':World} {e:Ending} (h:E=F) (hF:¬ F=0) (he:e=.returned (.tuple #[.slice none 0 0,.int .i64 F])) (hx:Ext w w'):ClPost l ch n E w e w' :=
 ⟨none,0,[],by rw[he,h];rfl,fun h=>absurd rfl h,fun _=>rfl,fun h2=>absurd (h ▸ h2) hF,Nat.zero_le _,hx⟩
theorem ClPost.of {l:List Pkg} {ch:List (List ByteArray)} {n:Nat} {E:Int} {w w':World} {e:Ending} {A':Option Addr} {c':Nat} {I:Nat->List Itm} (h:E=0) (he:e=.returned (.tuple #[.slice A' (allX I n n).length c',.int .i64 0])) (hr:RdCl w' A' (allX I n n)) (hI:∀ i,i < n->ItemsS (l.getD i zeroPk).comps (clsV (l.getD i zeroPk).comps (ch.getD i [])) (I i)) (hl:∀ i,(I i).length<=2097152) (hb:(allX I n n).length<=1000000000000) (hx:Ext w w'):ClPost l ch n E w e w' :=
 ⟨A',c',_,by rw[he,h],hr,fun h2=>absurd h h2,fun _=>⟨I,hI,hl,rfl⟩,hb,hx⟩
set_option maxHeartbeats 32000000 in
set_option maxRecDepth 100000 in
theorem Clashes_any (l:List Pkg) (ch:List (List ByteArray)) (A:Option Addr) (n c:Nat) (B:Option Addr) (m d:Nat) (w:World) (hg:GoodN w) (hn:l.length=n) (hr:RdK w A l) (hs:∀ p∈l,SmallP p) (hl:n<=2097152) (hcap:n<=c) (hm:ch.length=m) (hrc:RdXX w B ch) (hcl:∀ x∈ch,x.length<=2000000) :
 Calls Tryz.prog 65 #[.slice A n c,.slice B m d] w fun e w'=>ClPost l ch n (clE l ch) w e w':=by
 have HE:=Hy (show clE l ch=if n=m then if 100 < n then 4 else firstN n (clAt l ch) else 2 from by unfold clE;rw[hn,hm])
 have HAT:=Hy (fun i=>show clAt l ch i=f2 (f2 (pkErr (l.getD i zeroPk)) (chErr (l.getD i zeroPk).comps (ch.getD i []))) (if anyN i (fun j=>decide ((l.getD j zeroPk).name=(l.getD i zeroPk).name))=true then 6 else 0) from rfl)
 generalize clE l ch=E at *
 generalize clAt l ch=EA at *
 have HN:=Hy hn
 have HM:=Hy hm
 have HR:=Hy hr
 have HRC:=Hy hrc
 have HSM:=Hy hs
 have HCL:=Hy hcl
 have CFN:=Hy (fun k (hk:k<=n) (P:Pkg->Bool) cp W (h:Ext w W) hf=>ContainsPk_any 143 (enters_of Tryz.func143 (by kernel_rfl) rfl) cp P l A k c W (by omega) (hr.ext h) (by omega) hf)
 clear hn hm hr hrc hs hcl
 by_cases hnm:n=m
 rotate_left
 ·have hne:((n:Int) != (m:Int))=true:=by rw[bne_iff_ne];omega
  have HE2:=Hy (show E=2 from by rw[HE.out,if_neg hnm])
  clear CFN HE HAT
  go_enter Tryz.func65,Tryz.ntmps65
  go_wp2
  go_ret2
  exact ClPost.err HE2.out (by decide) rfl (Ext.refl _)
 subst hnm
 have heq:((n:Int) != (n:Int))=false:=by rw[bne,beq_iff_eq.2 rfl];rfl
 by_cases h100:100 < n
 ·have HE2:=Hy (show E=4 from by rw[HE.out,if_pos rfl,if_pos h100])
  have hgt:(100:Int) < (n:Int):=by omega
  clear CFN HE HAT
  go_enter Tryz.func65,Tryz.ntmps65
  go_wp2
  go_ret2
  exact ClPost.err HE2.out (by decide) rfl (Ext.refl _)
 have HE2:=Hy (show E=firstN n EA from by rw[HE.out,if_pos rfl,if_neg h100])
 have hgt:¬ (100:Int) < (n:Int):=by omega
 have hmk:=fun W=>make_items n hl W
 have bA0:=Blk.new w 79 (valsA n fun _=>.slice none 0 0)
 have hx0:Ext w (w.alloc (.cells (valsA n fun _=>.slice none 0 0) 79)):=(Ext.refl w).alloc _
 generalize hW0:w.alloc (.cells (valsA n fun _=>.slice none 0 0) 79)=W0 at *
 have HW0:=Hy hW0
 have BA0:=Hy bA0
 clear hW0 HE bA0
 go_enter Tryz.func65,Tryz.ntmps65
 go_upto_region 7 with (first|(rw[HW0.out]))
 try rw[HW0.out]
 clear hmk
 go_loopw [27] (fun ix wr=>∃ (k:Nat) (I:Nat->List Itm) (V:Nat->Value),k<=n∧ix=.int .i64 k∧Hid (∀ j,j < k->EA j=0)∧Hid (Blk wr w.heap.size 79 (valsA n V))∧Hid (ItsK wr l ch I V k)∧Ext w wr) (fun ix _=>n - (intOf ix).toNat)
 case atStart=>exact⟨0,fun _=>[],fun _=>.slice none 0 0,Nat.zero_le _,rfl,Hy (fun j h=>absurd h (Nat.not_lt_zero _)),BA0,Hy ⟨fun i h=>absurd h (Nat.not_lt_zero _),fun _=>Nat.zero_le _,fun _=>⟨_,_,_,rfl⟩⟩,hx0⟩
 case round =>
  clear BA0 HW0 hx0
  obtain⟨k,I,V,hk,rfl,H0,HB,HI,hxr⟩:=hrel
  obtain⟨wo,rfl⟩:∃ wo:World,wo=wr:=⟨_,rfl⟩
  by_cases hlt:k < n
  ·have hk1:k < l.length:=by rw[HN.out];exact hlt
   have hk2:k < ch.length:=by rw[HM.out];exact hlt
   obtain⟨b,o,hA,hX⟩:=(HR.out.ext hxr) (fun e=>by rw[e] at hk1;exact absurd hk1 (Nat.not_lt_zero _))
   obtain⟨A1,c1,A2,c2,A3,c3,A4,c4,hrow⟩:=hX k hk1
   obtain⟨bb,bo,rfl,hY⟩:=(HRC.out.ext hxr) (fun e=>by rw[e] at hk2;exact absurd hk2 (Nat.not_lt_zero _))
   obtain⟨Ak,ck,hcell,hcc,hrd⟩:=hY k hk2
   have LD:=load_Pk hrow
   have HATK:=Hy (HAT.out k)
   have CFK:=Hy (fun nm cp W (h:Ext w W) hf=>CFN.out k (by omega) (fun q=>decide (q.name=nm)) cp W h hf)
   have HIN:=Hy (fun W (h:Ext wo W)=>hrow.has.ext h)
   have HNX:=Hy (fun (W:World) (hh:ItsK W l ch I V k) A' c' L (h1:L.length<=c') (h2:RdI W A' L) h3 h4=>hh.next (A:=A') (c:=c') (L:=L) h1 h2 h3 h4)
   have HGP:=Hy (getD_pk hk1)
   have HGC:=Hy (getD_ch hk2)
   have HSP:=Hy (HSM.out l[k] (List.getElem_mem hk1))
   have hck:=HCL.out ch[k] (List.getElem_mem hk2)
   have CIT:=Hy (fun W (h:Ext wo W)=>Items_any l[k] A1 c1 A2 c2 A3 c3 A4 c4 ch[k] Ak ch[k].length ck W (hg.ext (hxr.trans h)) (HIN.out W h) HSP.out rfl hcc (hrd.ext h) hck)
   rw[HGP.out,HGC.out] at HNX HATK
   have HIL:=Hy (fun L (a:ItemsS l[k].comps (clsV l[k].comps ch[k]) L)=>show L.length<=2097152 from by
    have h1:=a.1.length_eq
    have h2:=(itemsK_all l[k].comps (clsV l[k].comps ch[k])).length_le
    have h3:=HSP.out.all
    omega)
   clear hX hrow hY hrd HGC CFN HAT HSM HCL HR HRC
   subst hA
   generalize l[k]=p at *
   generalize ch[k]=ns at *
   generalize ns.length=nk at *
   dsimp only[pkV] at LD CIT
   have b1:=Blk.new wo 76 #[.string p.name,.int .i64 p.vv.a1,.int .i64 p.vv.a2,.int .i64 p.vv.a3,.string p.vv.a,.string p.title,.slice A1 p.needs.length c1,.slice A2 p.bars.length c2,.slice A3 p.comps.length c3,.slice A4 p.moves.length c4]
   have hxa:Ext wo (wo.alloc (.cells #[.string p.name,.int .i64 p.vv.a1,.int .i64 p.vv.a2,.int .i64 p.vv.a3,.string p.vv.a,.string p.title,.slice A1 p.needs.length c1,.slice A2 p.bars.length c2,.slice A3 p.comps.length c3,.slice A4 p.moves.length c4] 76)):=(Ext.refl wo).alloc _
   generalize hW1:wo.alloc (.cells #[.string p.name,.int .i64 p.vv.a1,.int .i64 p.vv.a2,.int .i64 p.vv.a3,.string p.vv.a,.string p.title,.slice A1 p.needs.length c1,.slice A2 p.bars.length c2,.slice A3 p.comps.length c3,.slice A4 p.moves.length c4] 76)=W1 at *
   have HW1:=Hy hW1
   clear hW1
   have d0:W1.cell? ⟨wo.heap.size,0,none⟩=some (.string p.name):=b1.cell 0
   have d1:W1.cell? ⟨wo.heap.size,1,none⟩=some (.int .i64 p.vv.a1):=b1.cell 1
   have d2:W1.cell? ⟨wo.heap.size,2,none⟩=some (.int .i64 p.vv.a2):=b1.cell 2
   have d3:W1.cell? ⟨wo.heap.size,3,none⟩=some (.int .i64 p.vv.a3):=b1.cell 3
   have d4:W1.cell? ⟨wo.heap.size,4,none⟩=some (.string p.vv.a):=b1.cell 4
   have d5:W1.cell? ⟨wo.heap.size,5,none⟩=some (.string p.title):=b1.cell 5
   have d6:W1.cell? ⟨wo.heap.size,6,none⟩=some (.slice A1 p.needs.length c1):=b1.cell 6
   have d7:W1.cell? ⟨wo.heap.size,7,none⟩=some (.slice A2 p.bars.length c2):=b1.cell 7
   have d8:W1.cell? ⟨wo.heap.size,8,none⟩=some (.slice A3 p.comps.length c3):=b1.cell 8
   have d9:W1.cell? ⟨wo.heap.size,9,none⟩=some (.slice A4 p.moves.length c4):=b1.cell 9
   have dk:W1.cell? ⟨bb,bo+k,none⟩=some (.slice Ak nk ck):=hxa.cell hcell
   have dl:=b1.lt
   have dkl:=lt_of_cell dk
   have CI2:=Hy (fun W (h:Ext W1 W)=>(CIT.out W (hxa.trans h)).mono (fun e w' hh=>(show ∃ L A' cc,e=.returned (.tuple #[.slice A' L.length cc,.int .i64 (f2 (pkErr p) (chErr p.comps ns))])∧Hid (L.length<=cc∧RdI w' A' L∧(f2 (pkErr p) (chErr p.comps ns)=0->ItemsS p.comps (clsV p.comps ns) L))∧Ext W w'∧Ext W1 w' from by
    obtain⟨L,A',cc,h1,h2,h3,_,h5,h6⟩:=hh
    exact⟨L,A',cc,h1,⟨h2,h3,h5⟩,h6,h.trans h6⟩)))
   have BX:=Hy b1
   clear CIT b1 hcell HSP hcc hck
   obtain⟨E3,hE3⟩:∃ E3,E3=f2 (pkErr p) (chErr p.comps ns):=⟨_,rfl⟩
   rw[<-hE3] at HATK
   have CI3:=Hy (fun W (h:Ext W1 W)=>(show Calls Tryz.prog 59 #[.agg #[.string p.name,.int .i64 p.vv.a1,.int .i64 p.vv.a2,.int .i64 p.vv.a3,.string p.vv.a,.string p.title,.slice A1 p.needs.length c1,.slice A2 p.bars.length c2,.slice A3 p.comps.length c3,.slice A4 p.moves.length c4],.slice Ak nk ck] W fun e w'=>∃ L A' cc,e=.returned (.tuple #[.slice A' L.length cc,.int .i64 E3])∧Hid (L.length<=cc∧RdI w' A' L∧(E3=0->ItemsS p.comps (clsV p.comps ns) L))∧Ext W w'∧Ext W1 w' from by rw[hE3];exact CI2.out W h))
   clear CI2 hE3
   go_upto_region 9 with (first|(rw[HW1.out])|(refine wpList_load_at rfl _ _ rfl _ rfl _ LD ?_))
   try rw[HW1.out]
   clear LD
   go_region_held3 (fun w'=>w'.cell? ⟨wo.heap.size,0,none⟩=some (.string p.name)∧w'.cell? ⟨wo.heap.size,1,none⟩=some (.int .i64 p.vv.a1)∧w'.cell? ⟨wo.heap.size,2,none⟩=some (.int .i64 p.vv.a2)∧w'.cell? ⟨wo.heap.size,3,none⟩=some (.int .i64 p.vv.a3)∧w'.cell? ⟨wo.heap.size,4,none⟩=some (.string p.vv.a)∧w'.cell? ⟨wo.heap.size,5,none⟩=some (.string p.title)∧w'.cell? ⟨wo.heap.size,6,none⟩=some (.slice A1 p.needs.length c1)∧w'.cell? ⟨wo.heap.size,7,none⟩=some (.slice A2 p.bars.length c2)∧w'.cell? ⟨wo.heap.size,8,none⟩=some (.slice A3 p.comps.length c3)∧w'.cell? ⟨wo.heap.size,9,none⟩=some (.slice A4 p.moves.length c4)∧w'.cell? ⟨bb,bo+k,none⟩=some (.slice Ak nk ck)) (first|(go_keep;done)|((try go_split_ands);(try dsimp only);(repeat' apply And.intro);all_goals (first|(go_keep;done)|(with_reducible exact hxh.cell (by assumption))|(refine hxh.cell ?_;go_simp))))
    (first
    | (go_at_call 59;with_reducible refine (CI3.out _ Ext.au).mono ?_;rintro e w' ⟨L,A',cc,rfl,hits,hxh,hab⟩))
   all_goals
    clear d0 d1 d2 d3 d4 d5 d6 d7 d8 d9 dk dkl CI3
    obtain⟨w5,rfl⟩:∃ W:World,W=w':=⟨_,rfl⟩
    have hx5:=hxa.trans hab
    have hxw5:=hxr.trans hx5
    have bX5:=BX.out.ext hab
    have bB5:=HB.out.ext hx5
    have HI5:=Hy (HI.out.ext hx5)
    clear hxh dl
    by_cases he:E3=0
    rotate_left
    ·have hne:(E3 != 0)=true:=by rw[bne_iff_ne];exact he
     have HFE:=Hy (show E=E3 from by
      rw[HE2.out]
      exact (firstN_at hlt H0.out (by rw[HATK.out];unfold f2;rw[if_neg he];exact he)).trans (by rw[HATK.out];unfold f2;rw[if_neg he]))
     clear bX5 bB5 HATK
     go_wp2
     go_ret2
     exact ClPost.err HFE.out he rfl hxw5
    ·subst he
     obtain⟨h1,h2,h3⟩:=hits.out
     have h3:=h3 rfl
     have hL:=HIL.out _ h3
     have HCK:=Hy (fun W (h:Ext w5 W)=>CFK.out p.name #[.pointer (some ⟨wo.heap.size,0,none⟩)] W (hxw5.trans h) (fun q a1 e1 a2 e2 a3 e3 a4 e4 W2 hW2=>clC_any q a1 e1 a2 e2 a3 e3 a4 e4 wo.heap.size p.name W2 ((bX5.ext (h.trans hW2)).cell 0)))
     have HAK2:=Hy (show EA k=if anyN k (fun j=>decide ((l.getD j zeroPk).name=p.name))=true then 6 else 0 from by rw[HATK.out];unfold f2;rw[if_pos rfl])
     generalize anyN k (fun j=>decide ((l.getD j zeroPk).name=p.name))=T at *
     have HN5:=Hy (HNX.out w5 HI5.out _ _ L h1 h2 h3 hL)
     have hkc:k<=c:=by omega
     have c5:=bX5.cell;have l5:=bX5.lt
     clear hits h1 h2 h3 HATK CFK HNX HI5
     cases T with
     | true =>
       have HFE:=Hy (show E=6 from by
        rw[HE2.out]
        exact (firstN_at hlt H0.out (by rw[HAK2.out];decide)).trans (by rw[HAK2.out];rfl))
       go_wp2_with fail
       refine (HCK.out _ Ext.au).mono ?_
       rintro e w6 ⟨rfl,hx6⟩
       clear c5 l5
       go_wp2
       go_ret2
       exact ClPost.err HFE.out (by decide) rfl (hxw5.trans hx6)
     | false =>
       have HEK:=Hy (firstN_next (f:=EA) H0.out (show EA k=0 from by rw[HAK2.out];simp))
       go_wp2_with fail
       refine (HCK.out _ Ext.au).mono ?_
       rintro e w6 ⟨rfl,hx6⟩
       have hxw6:=hxw5.trans hx6
       have b6:=bB5.ext hx6
       have b7:=b6.set k (.slice A' L.length cc)
       rw[valsA_set] at b7
       have hx7:=hxw6.setCell (p:=⟨w.heap.size,k,none⟩) (Nat.le_refl _) (.slice A' L.length cc)
       have HN7:=Hy (HN5.out.ext hx6)
       have hgk:(valsA n V)[k]?=some (V k):=valsA_get hlt
       have c6:=b6.cell;have f6:=b6.free;have l6:=b6.lt
       have HN8:=Hy (HN7.out.put b6 HI.out.2.2 k (.slice A' L.length cc))
       clear c5 l5 bX5 bB5 HAK2
       go_wp2
       go_roundw
       case rel=>exact⟨k+1,_,_,by omega,by go_num,HEK,Hy b7,HN8,hx7⟩
       case measure=>simp[intOf];omega
  ·obtain rfl:n=k:=by omega
   have HZ:=Hy (show E=0 from by rw[HE2.out];exact firstN_zero H0.out)
   clear CFN HE2 HAT HSM HCL HR HRC H0
   go_wp2
   go_loopw [11,56] (fun s ix wr=>∃ i:Nat,i<=n∧ix=.int .i64 i∧Hid (wr.ownsRow wo.heap.size 120 4 s (allX I n i).length ((allX I n i).flatMap claC))∧Ext wo wr) (fun s ix _=>n - (intOf ix).toNat)
   case atStart=>exact⟨0,Nat.zero_le _,rfl,Hy (World.ownsRow_nil _ _ _ _),Ext.refl _⟩
   case round =>
    obtain⟨i,hi,rfl,HO,hxi⟩:=hrel
    obtain⟨wi,rfl⟩:∃ wi:World,wi=wr:=⟨_,rfl⟩
    by_cases hlt:i < n
    ·obtain⟨Ai,ci,hVi,hci,hri,hsi⟩:=HI.out.1 i hlt
     have HRI:=Hy hri
     have e1o:wo.cell? ⟨w.heap.size,i,none⟩=some (.slice Ai (I i).length ci):=by rw[HB.out.cell i,valsA_get hlt,hVi]
     have hii:IntKind.i64.wrap ((i:Int)+1)=(i:Int)+1:=by rw[IntKind.wrap_i64];omega
     clear hVi hci hri hsi
     go_wp2
     go_loopw [11,13] (fun s kx ws=>∃ k:Nat,i+1<=k∧k<=n∧kx=.int .i64 k∧Hid (ws.ownsRow wo.heap.size 120 4 s (allX I n i++rowX I i k).length ((allX I n i++rowX I i k).flatMap claC))∧Ext wo ws) (fun s kx _=>n - (intOf kx).toNat)
     case atStart=>exact⟨i+1,Nat.le_refl _,by omega,by go_num,Hy (by rw[rowX_none I i (i+1) (Nat.le_refl _),List.append_nil];exact HO.out),hxi⟩
     case round =>
      clear HO hxi
      obtain⟨k,hik,hk,rfl,HO,hxk⟩:=hrel
      obtain⟨wk,rfl⟩:∃ wk:World,wk=wr:=⟨_,rfl⟩
      by_cases hlk:k < n
      ·obtain⟨Ak,ck,hVk,hck,hrk,hsk⟩:=HI.out.1 k hlk
       have e2o:wo.cell? ⟨w.heap.size,k,none⟩=some (.slice Ak (I k).length ck):=by rw[HB.out.cell k,valsA_get hlk,hVk]
       have CBW:=Hy (fun W (h:Ext wo W)=>(between_any (i:Int) (k:Int) Ai Ak (I i).length ci (I k).length ck (I i) (I k) W rfl (HRI.out.ext h) (HI.out.2.1 i) rfl (hrk.ext h) (HI.out.2.1 k) hck hsk.2).mono fun e w' hh=>(show ∃ v,e=.returned v∧Hid (w'.ownsRow W.heap.size 120 4 v (clB i k (I i) (I k)).length ((clB i k (I i) (I k)).flatMap claC))∧Ext W w'∧Ext wo w' from by
        obtain⟨v,h1,h2,h3⟩:=hh
        exact⟨v,h1,h2,h3,h.trans h3⟩))
       have HX:=Hy (rowX_succ I (show i < k by omega))
       have hb1:=allX_len HI.out.2.1 n i
       have hb2:=rowX_len HI.out.2.1 i k
       have hb3:=Nat.le_trans (clB_len i k (I i) (I k)) (HI.out.2.1 i)
       have hnn:i * (n * 2097152)<=100 * (100 * 2097152):=Nat.mul_le_mul (by omega) (Nat.mul_le_mul (by omega) (Nat.le_refl _))
       have hkk:k * 2097152<=100 * 2097152:=Nat.mul_le_mul (by omega) (Nat.le_refl _)
       have HBND:=Hy (show (allX I n i++rowX I i k).length+(clB i k (I i) (I k)).length<=1000000000000 from by rw[List.length_append];omega)
       have s1:=hxk.cell e1o;have s2:=hxk.cell e2o
       have hsz:=hxk.size
       have sl:=lt_of_cell s1
       have xO:Ext wk wk.drew:=(Ext.refl wk).drew
       clear hVk hck hrk hsk hb1 hb2 hb3 hnn hkk
       go_wp2
       go_region_held3 (fun w'=>w'.cell? ⟨w.heap.size,i,none⟩=some (.slice Ai (I i).length ci)∧w'.cell? ⟨w.heap.size,k,none⟩=some (.slice Ak (I k).length ck))
        (first|exact⟨hxo6.cell e1o,hxo6.cell e2o⟩|exact⟨hxo5.cell e1o,hxo5.cell e2o⟩|(go_keep;done))
        (first
          | (go_at_call 144;with_reducible refine (CBW.out _ (hxk.trans Ext.au)).mono ?_;rintro e w5 ⟨v5,rfl,hown5,hx5,hxo5⟩)
          | (refine step_appCl rfl _ _ rfl wo.heap.size _ (allX I n i++rowX I i k) rfl (own_ext HO.out (xO.trans hx5)) _ v5 (clB i k (I i) (I k)) rfl hown5.out HBND.out hxo5.size ?_;intro v6 w6 hown6 hx6 _;(have hxo6:=hx6 _ hxo5 (Nat.le_refl _));(have HOWN6:=Hy hown6);clear hown6 hx6))
       all_goals
        clear s1 s2 sl e2o CBW HBND hown5
        go_wp2
        go_roundw
        case rel=>exact⟨k+1,by omega,by omega,by go_num,Hy (by rw[HX.out,<-List.append_assoc];exact HOWN6.out),hxo6⟩
        case measure=>simp[intOf];omega
      ·obtain rfl:n=k:=by omega
       have HOF:=Hy (show wk.ownsRow wo.heap.size 120 4 _ (allX I n (i+1)).length ((allX I n (i+1)).flatMap claC) from by rw[allX_succ];exact HO.out)
       go_wp2
       go_roundw
       case rel=>exact⟨i+1,by omega,by go_num,HOF,hxk⟩
       case measure=>simp[intOf];omega
    ·obtain rfl:n=i:=by omega
     obtain⟨A',c',rfl,hc',hrd⟩:=rdcl_own HO.out rfl
     have hb1:=allX_len HI.out.2.1 n n
     have hnn:n * (n * 2097152)<=100 * (100 * 2097152):=Nat.mul_le_mul (by omega) (Nat.mul_le_mul (by omega) (Nat.le_refl _))
     have HFI:=Hy (fun i (hi:i < n)=>(show ItemsS (l.getD i zeroPk).comps (clsV (l.getD i zeroPk).comps (ch.getD i [])) (I i) from by
      obtain⟨_,_,_,_,_,h⟩:=HI.out.1 i hi
      exact h))
     have HRD:=Hy hrd
     clear hrd
     go_wp2
     go_ret2
     exact ClPost.of HZ.out rfl HRD.out HFI.out HI.out.2.1 (by omega) (hxr.trans hxi)
end Go.Proofs.YtmpccllnpcbgcaaGreatDoor
