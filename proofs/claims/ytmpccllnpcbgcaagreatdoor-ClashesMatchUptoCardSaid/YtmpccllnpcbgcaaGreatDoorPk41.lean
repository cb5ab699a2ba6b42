/- Contract of outref2.AllowedOf. Contract of pack.cloneCond. The cells of steps in a row of the call's own. slices.Equal at equal items. -/
import Derived.Test.YtmpccllnpcbgcaaGreatDoorPk40
namespace Go.Proofs.YtmpccllnpcbgcaaGreatDoor
section
open Go.RowKit
def saysB (l:List Cmp) (H:Nat->Bool) (x:ByteArray):Bool:=(List.range l.length).any fun j=>decide ((l.getD j zeroP).name=x)&&H j
theorem saysB_at {l:List Cmp} {H:Nat->Bool} (hnd:(l.map Cmp.name).Nodup) (j:Nat) (hj:j < l.length):saysB l H l[j].name=H j:=by
 unfold saysB
 rw[Bool.eq_iff_iff,List.any_eq_true]
 constructor
 ·rintro ⟨i,hi,h⟩
  have hi:=List.mem_range.1 hi
  rw[Bool.and_eq_true,decide_eq_true_eq,getD_cm hi] at h
  rw[<-name_inj hi hj hnd h.1]
  exact h.2
 ·intro h
  exact⟨j,List.mem_range.2 hj,by rw[getD_cm hj,h];simp⟩
def HbMap (w:World) (b:Nat) (l:List Cmp) (H:Nat->Bool) (k:Nat):Prop:=∃ F,HMap keyStr w b k F∧∀ i,i < k->F (l.getD i zeroP).name=some (.bool (H i))
namespace HbMap
variable {w w':World} {b k:Nat} {l:List Cmp} {H:Nat->Bool}
theorem made (w:World):HbMap (w.alloc (.map #[] 0)) w.heap.size l H 0:=⟨_,HMap.made (κ:=keyStr) w,fun _ h=>absurd h (Nat.not_lt_zero _)⟩
theorem far (h:HbMap w b l H k) {row:Option Nat} (hg:w.grownBy w' row) (hne:some b≠row):HbMap w' b l H k:=by
 obtain⟨F,h,r⟩:=h
 exact⟨F,h.far hg hne,r⟩
theorem ext (h:HbMap w b l H k) (hx:Ext w w'):HbMap w' b l H k:=by
 obtain⟨F,h,r⟩:=h
 exact⟨F,h.ext hx,r⟩
theorem lt (h:HbMap w b l H k):b < w.heap.size:=by
 obtain⟨F,h,_⟩:=h
 exact h.lt
theorem look (h:HbMap w b l H k) {i:Nat} (hi:i < k) (hs:(l.getD i zeroP).name.size<=2097152):(Instr.lookup 191 (.map (some b)) (.string (l.getD i zeroP).name) false).run Tryz.prog w=.ok (.bool (H i)) w:=by
 obtain⟨F,h,r⟩:=h
 have hh:=h.look (m:=191) Tryz.underlying191 (z:=.bool false) (w:=w) (by go_simp) (v:=(l.getD i zeroP).name) (show (l.getD i zeroP).name.size<=maxLen by simp only[maxLen];omega)
 rw[r i hi] at hh
 exact hh.2
theorem says (h:HbMap w b l H l.length) (hnd:(l.map Cmp.name).Nodup) {x:ByteArray} (hc:isComp l x=true) (hs:x.size<=2097152):(Instr.lookup 191 (.map (some b)) (.string x) false).run Tryz.prog w=.ok (.bool (saysB l H x)) w:=by
 obtain⟨i,hi,rfl⟩:=isComp_iff.1 hc
 have hh:=h.look hi hs
 rw[hh,getD_cm hi,saysB_at hnd i hi]
theorem upd (h:HbMap w b l H k) (hk:k < l.length) (hnd:(l.map Cmp.name).Nodup) (hs:l[k].name.size<=2097152) (hk2:k<=1000) :
 ∃ w',(Instr.mapUpdate 191 (.map (some b)) (.string l[k].name) (.bool (H k))).run Tryz.prog w=.ok () w'∧HbMap w' b l H (k+1)∧w.grownBy w' (some b):=by
 obtain⟨F,h,r⟩:=h
 obtain⟨w',hr,hm,hg⟩:=h.upd (m:=191) Tryz.underlying191 (v:=l[k].name) (show l[k].name.size<=maxLen by simp only[maxLen];omega) (.bool (H k)) (by omega)
 refine⟨w',hr,⟨_,hm,fun i hi=>?_⟩,hg⟩
 rcases Nat.lt_or_ge i k with h1|h1
 ·have hil:i < l.length:=by omega
  rw[getD_cm hil,setK_ne (fun e=>by have:=name_inj hil hk hnd e;omega),<-getD_cm hil]
  exact r i h1
 ·obtain rfl:i=k:=by omega
  rw[getD_cm hk,setK_same]
end HbMap
structure AgSt (w0:World) (bP:Nat) (pc:Array Value) (bA nA:Nat) (l:List Cmp) (bM:Nat) (H:Nat->Bool) (k:Nat) (w:World):Prop where
 p:Blk w bP 76 pc
 a:NdMap w0 w bA nA l
 m:HbMap w bM l H k
 x:Ext w0 w
 hM:w0.heap.size<=bM
 hA:bA≠bM
namespace AgSt
variable {w0 w w':World} {bP bA nA bM k k':Nat} {pc:Array Value} {l:List Cmp} {H:Nat->Bool}
theorem ext (h:AgSt w0 bP pc bA nA l bM H k w) (hx:Ext w w'):AgSt w0 bP pc bA nA l bM H k w':=⟨h.p.ext hx,h.a.ext hx,h.m.ext hx,h.x.trans hx,h.hM,h.hA⟩
theorem upd (h:AgSt w0 bP pc bA nA l bM H k w) (hP:bP≠bM) (hg:w.grownBy w' (some bM)) (hm:HbMap w' bM l H k'):AgSt w0 bP pc bA nA l bM H k' w' :=
 ⟨h.p.turned hg (by simpa using hP),h.a.far hg (by simpa using h.hA),hm,h.x.row hg h.hM,h.hM,h.hA⟩
theorem row (h:AgSt w0 bP pc bA nA l bM H k w) {r:Nat} (hg:w.grownBy w' (some r)) (h0:w0.heap.size<=r) (h1:bP≠r) (h2:bA≠r) (h3:bM≠r):AgSt w0 bP pc bA nA l bM H k w' :=
 ⟨h.p.turned hg (by simpa using h1),h.a.far hg (by simpa using h2),h.m.far hg (by simpa using h3),h.x.row hg h0,h.hM,h.hA⟩
end AgSt
end
section
open Go.RowKit
def mapN (m:Nat) (U:Nat->Value):List Value:=(List.range m).map U
theorem mapN_len (m:Nat) (U:Nat->Value):(mapN m U).length=m:=by unfold mapN;simp
theorem mapN_get {m i:Nat} {U:Nat->Value} (h:i < m):(mapN m U)[i]?=some (U i):=by unfold mapN;simp[h]
theorem mapN_set {m k:Nat} {U:Nat->Value} {u:Value}:(mapN m U).set k u=mapN m fun i=>if i=k then u else U i:=by
 apply List.ext_getElem?
 intro j
 rw[List.getElem?_set]
 by_cases hj:j < m
 ·rw[mapN_get hj,mapN_get hj,mapN_len]
  by_cases e:k=j
  ·subst e
   simp[hj]
  ·rw[if_neg e,if_neg (fun h=>e h.symm)]
 ·rw[List.getElem?_eq_none (by rw[mapN_len];omega),List.getElem?_eq_none (by rw[mapN_len];omega),mapN_len]
  simp;omega
def putC (U:Nat->Value) (k:Nat) (a0 a1 a2 a3:Value):Nat->Value:=fun i=>if i=k * 4+3 then a3 else if i=k * 4+2 then a2 else if i=k * 4+1 then a1 else if i=k * 4 then a0 else U i
def CRow (w:World) (B g c n:Nat) (U:Nat->Value):Prop:=w.ownsRow B 52 4 (.slice (some ⟨g,0,none⟩) n c) n (mapN (n * 4) U)
namespace CRow
variable {w w':World} {B g c n:Nat} {U:Nat->Value}
theorem ext (h:CRow w B g c n U) (hx:Ext w w'):CRow w' B g c n U:=own_ext h hx
theorem cell (h:CRow w B g c n U) {i:Nat} (hi:i < n * 4):w.cell? ⟨g,i,none⟩=some (U i):=by
 rw[World.ownsRow.cellAt h i hi,mapN_get hi]
theorem free (h:CRow w B g c n U) (i:Nat):w.frozen? ⟨g,i,none⟩=false:=World.ownsRow.frozenAt h i
theorem put (h:CRow w B g c n U) (k:Nat) (a0 a1 a2 a3:Value):CRow ((((w.setCell ⟨g,k * 4,none⟩ a0).setCell ⟨g,k * 4+1,none⟩ a1).setCell ⟨g,k * 4+2,none⟩ a2).setCell ⟨g,k * 4+3,none⟩ a3) B g c n (putC U k a0 a1 a2 a3):=by
 have h1:=(World.ownsRow.stored h (k * 4) a0).1
 have h2:=(World.ownsRow.stored h1 (k * 4+1) a1).1
 have h3:=(World.ownsRow.stored h2 (k * 4+2) a2).1
 have h4:=(World.ownsRow.stored h3 (k * 4+3) a3).1
 rw[mapN_set,mapN_set,mapN_set,mapN_set] at h4
 exact h4
end CRow
end
section
open Go.RowKit
def stoC (x:Sto):List Value:=[.int .i64 x.kind,.string x.name,.string x.val]
theorem stoC_length (x:Sto):(stoC x).length=3:=rfl
theorem stoC_flat (l:List Sto):(l.flatMap stoC).length=l.length * 3:=by
 induction l with
 | nil=>rfl
 | cons s l ih=>rw[List.flatMap_cons,List.length_append,ih,stoC_length,List.length_cons];omega
theorem stoC_one (l:List Sto):∀ u∈l.flatMap stoC,u.oneCell'=true:=by
 intro u hu
 obtain⟨s,_,h⟩:=List.mem_flatMap.1 hu
 simp only[stoC,List.mem_cons,List.not_mem_nil,or_false] at h
 rcases h with rfl|rfl|rfl<;>rfl
theorem stoC_cells {w:World} {b o:Nat} {l:List Sto} (h:∀ q (h:q < l.length),StoRow w b (o+q * 3) l[q]) (j:Nat) (u:Value) (hu:(l.flatMap stoC)[j]?=some u):w.cell? ⟨b,o+j,none⟩=some u:=by
 have hj:j < l.length * 3:=by
  rw[<-stoC_flat]
  rcases Nat.lt_or_ge j (l.flatMap stoC).length with h1|h1
  ·exact h1
  ·rw[List.getElem?_eq_none h1] at hu;cases hu
 have hk:j / 3 < l.length:=by omega
 have hi:j % 3 < 3:=Nat.mod_lt _ (by decide)
 have e:j=j / 3 * 3+j % 3:=by omega
 rw[e,flat_get (f:=stoC) (m:=3) stoC_length l (j / 3) (j % 3) hk hi] at hu
 rw[e,<-Nat.add_assoc]
 generalize j / 3=k at *
 generalize j % 3=i at *
 have h:=h k hk
 match i,hi,hu with
 | 0,_,hu=>injection hu with hu;subst hu;exact h.r0
 | 1,_,hu=>injection hu with hu;subst hu;exact h.r1
 | 2,_,hu=>injection hu with hu;subst hu;exact h.r2
theorem rdst_own {w:World} {B n:Nat} {v:Value} {l:List Sto} (h:w.ownsRow B 108 3 v n (l.flatMap stoC)) (hn:l.length=n):∃ A c,v=.slice A n c∧n<=c∧RdSt w A l:=by
 rcases Nat.eq_zero_or_pos n with h0|h0
 ·subst h0
  have he:l=[]:=List.eq_nil_of_length_eq_zero hn
  rcases h.2 with ⟨rfl,_⟩|⟨g,cap,cur,rfl,_⟩
  ·exact⟨none,0,rfl,Nat.le_refl _,fun e=>absurd he e⟩
  ·exact⟨_,_,rfl,Nat.zero_le _,fun e=>absurd he e⟩
 ·obtain⟨g,c,rfl,hlt,hB,hc,hcell⟩:=own_form h h0
  refine⟨_,_,rfl,hc,fun _=>⟨g,0,rfl,fun k hk=>?_⟩⟩
  have hx:∀ (j:Nat) (u:Value),(stoC l[k])[j]?=some u->w.cell? ⟨g,0+k * 3+j,none⟩=some u:=fun j u hu=>by
   have hj:j < 3:=by
    rcases Nat.lt_or_ge j 3 with h|h
    ·exact h
    ·rw[List.getElem?_eq_none (by rw[stoC_length];exact h)] at hu;cases hu
   rw[Nat.zero_add]
   exact hcell _ u (by rw[flat_get stoC_length l k j hk hj];exact hu)
  exact⟨hx 0 _ rfl,hx 1 _ rfl,hx 2 _ rfl⟩
theorem slice_of {w:World} {B n size:Nat} {e:TypeId} {v:Value} {xs:List Value} (h:w.ownsRow B e size v n xs):∃ A c,v=.slice A n c:=by
 rcases h.2 with ⟨rfl,rfl⟩|⟨g,cap,cur,rfl,_⟩
 ·exact⟨_,_,rfl⟩
 ·exact⟨_,_,rfl⟩
end
section
open Go.RowKit
set_option maxHeartbeats 4000000 in
set_option maxRecDepth 100000 in
theorem EqualI_same (A1 A2:Option Addr) (c1 c2 n:Nat) (l:List Itm) (w:World) (hn:l.length=n) (h1:RdI w A1 l) (h2:RdI w A2 l) (hl:n<=100000000) :
 Calls Tryz.prog 61 #[.slice A1 n c1,.slice A2 n c2] w fun e w'=>e=.returned (.bool true)∧Ext w w':=by
 have hne:((n:Int) != (n:Int))=false:=by rw[bne,beq_iff_eq.2 rfl];rfl
 have HN:=Hy hn;have H1:=Hy h1;have H2:=Hy h2
 clear hn h1 h2
 go_enter Tryz.func61,Tryz.ntmps61
 go_wp2
 go_loopw [13] (fun t wr=>∃ j:Nat,t=.int .i64 j∧j<=n∧Ext w wr) (fun t _=>n - (intOf t).toNat)
 case atStart=>exact⟨0,by go_num,Nat.zero_le _,Ext.refl w⟩
 case round =>
  obtain⟨j,rfl,hj,hxr⟩:=hrel
  by_cases hlt:j < n
  ·have hk:j < l.length:=by rw[HN.out];exact hlt
   have hne0:l≠[]:=fun e=>by rw[e] at hk;exact absurd hk (Nat.not_lt_zero _)
   obtain⟨g1,o1,rfl,k1⟩:=H1.out hne0
   obtain⟨g2,o2,rfl,k2⟩:=H2.out hne0
   have x1:=(k1 j hk).ext hxr
   have x2:=(k2 j hk).ext hxr
   generalize l[j]=t at *
   have L1:=fun W (h:Ext wr W)=>load_It (x1.ext h)
   have L2:=fun W (h:Ext wr W)=>load_It (x2.ext h)
   have hne2:∀ W,(binOp .neq 104 (itmV t) (itmV t)).run Tryz.prog W=.ok (.bool false) W:=fun W=>by
    rw[run_neqi,decide_eq_true rfl]
    rfl
   have hq0:(0:Int)<=(j:Int):=by omega
   obtain⟨t0,t1,t2,t3,t4,t5,t6,t7,t8,t9⟩:=t
   dsimp only[itmV] at L1 L2 hne2
   have hgl1:=lt_of_cell x1.r0;have hgl2:=lt_of_cell x2.r0
   clear k1 k2 x1 x2
   go_wp2_with fail
   refine wp_region_ext (by kernel_rfl) (by kernel_rfl) ?_
   repeat (first|go_big_quiet_skip|(refine wpQuiet_load (by rfl) _ _ rfl _ rfl _ L1 ?_)|(refine wpQuiet_load (by rfl) _ _ rfl _ rfl _ L2 ?_)|(refine wpQuiet_step (fun K hK=>?_);go_simp;first|(refine hK _ ?_;clear hK K)|(apply Exists.intro;refine⟨fun wq hwq=>?_,hK _ ?_⟩;(obtain⟨hqc,hqf⟩:=hwq.cells;have hqs:=hwq.size;(try go_simp);first|rfl|((first|rw[if_neg (by omega)]|rw[if_pos (by omega)]);(try go_simp);rfl)|((first|exact hne2 _|(rw[hne2];rfl)|(simp only[hne2];rfl)|(simp[hne2];done))));clear hK K)))
   refine wpQuiet_nil ?_
   intro wN hxN
   obtain⟨hcN,hfN⟩:=hxN.cells
   have hsN:=hxN.size
   go_wp2
   go_roundw
   case rel=>exact⟨j+1,by go_num,hlt,hxr.trans hxN⟩
   case measure=>simp[intOf];omega
  ·go_wp2
   go_ret
   exact⟨rfl,hxr⟩
section
set_option maxRecDepth 100000
theorem run_eqstp (d:Nat) (u v:Sto) (w:World):(Op.equalIn (d+3) 108 (stoV u) (stoV v)).run Tryz.prog w=.ok (decide (u=v)) w:=by
 obtain⟨u0,u1,u2⟩:=u
 obtain⟨v0,v1,v2⟩:=v
 dsimp only[stoV]
 rw[run_equalIn_agg w (d+2) 108 _ _ (by kernel_rfl) (by kernel_rfl)]
 simp only[Sto.mk.injEq]
 go_simp
 simp only[str_eq]
 repeat' split
 all_goals simp_all
end
theorem run_neqstp (u v:Sto) (w:World):(binOp .neq 108 (stoV u) (stoV v)).run Tryz.prog w=.ok (.bool (!decide (u=v))) w:=by
 rw[run_neq_struct,run_eqstp 9997]
 rfl
set_option maxHeartbeats 4000000 in
set_option maxRecDepth 100000 in
theorem EqualS_same (A1 A2:Option Addr) (c1 c2 n:Nat) (l:List Sto) (w:World) (hn:l.length=n) (h1:RdSt w A1 l) (h2:RdSt w A2 l) (hl:n<=100000000) :
 Calls Tryz.prog 63 #[.slice A1 n c1,.slice A2 n c2] w fun e w'=>e=.returned (.bool true)∧Ext w w':=by
 have hne:((n:Int) != (n:Int))=false:=by rw[bne,beq_iff_eq.2 rfl];rfl
 have HN:=Hy hn;have H1:=Hy h1;have H2:=Hy h2
 clear hn h1 h2
 go_enter Tryz.func63,Tryz.ntmps63
 go_wp2
 go_loopw [13] (fun t wr=>∃ j:Nat,t=.int .i64 j∧j<=n∧Ext w wr) (fun t _=>n - (intOf t).toNat)
 case atStart=>exact⟨0,by go_num,Nat.zero_le _,Ext.refl w⟩
 case round =>
  obtain⟨j,rfl,hj,hxr⟩:=hrel
  by_cases hlt:j < n
  ·have hk:j < l.length:=by rw[HN.out];exact hlt
   have hne0:l≠[]:=fun e=>by rw[e] at hk;exact absurd hk (Nat.not_lt_zero _)
   obtain⟨g1,o1,rfl,k1⟩:=H1.out hne0
   obtain⟨g2,o2,rfl,k2⟩:=H2.out hne0
   have x1:=(k1 j hk).ext hxr
   have x2:=(k2 j hk).ext hxr
   generalize l[j]=t at *
   have L1:=fun W (h:Ext wr W)=>load_Sto (x1.ext h)
   have L2:=fun W (h:Ext wr W)=>load_Sto (x2.ext h)
   have hne2:∀ W,(binOp .neq 108 (stoV t) (stoV t)).run Tryz.prog W=.ok (.bool false) W:=fun W=>by
    rw[run_neqstp,decide_eq_true rfl]
    rfl
   have hq0:(0:Int)<=(j:Int):=by omega
   obtain⟨t0,t1,t2⟩:=t
   dsimp only[stoV] at L1 L2 hne2
   have hgl1:=lt_of_cell x1.r0;have hgl2:=lt_of_cell x2.r0
   clear k1 k2 x1 x2
   go_wp2_with fail
   refine wp_region_ext (by kernel_rfl) (by kernel_rfl) ?_
   repeat (first|go_big_quiet_skip|(refine wpQuiet_load (by rfl) _ _ rfl _ rfl _ L1 ?_)|(refine wpQuiet_load (by rfl) _ _ rfl _ rfl _ L2 ?_)|(refine wpQuiet_step (fun K hK=>?_);go_simp;first|(refine hK _ ?_;clear hK K)|(apply Exists.intro;refine⟨fun wq hwq=>?_,hK _ ?_⟩;(obtain⟨hqc,hqf⟩:=hwq.cells;have hqs:=hwq.size;(try go_simp);first|rfl|((first|rw[if_neg (by omega)]|rw[if_pos (by omega)]);(try go_simp);rfl)|((first|exact hne2 _|(rw[hne2];rfl)|(simp only[hne2];rfl)|(simp[hne2];done))));clear hK K)))
   refine wpQuiet_nil ?_
   intro wN hxN
   obtain⟨hcN,hfN⟩:=hxN.cells
   have hsN:=hxN.size
   go_wp2
   go_roundw
   case rel=>exact⟨j+1,by go_num,hlt,hxr.trans hxN⟩
   case measure=>simp[intOf];omega
  ·go_wp2
   go_ret
   exact⟨rfl,hxr⟩
end
end Go.Proofs.YtmpccllnpcbgcaaGreatDoor
