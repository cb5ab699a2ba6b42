/- The condition reader of the reference in memory: 'is', 'next'. -/
import Derived.Test.YtmnafaaijglnfaaGreatDoorFr12
namespace Go.Proofs.YtmnafaaijglnfaaGreatDoor
open Go.RowKit
abbrev wdV (d:Wd):Value:=.agg #[.string d.t,.int .u8 d.k.toNat,.int .i64 d.a,.string d.v]
structure WdsAt (w:World) (b:Nat) (W:List Wd):Prop where
 lt:b < w.heap.size
 c0:∀ j (h:j < W.length),w.cell? ⟨b,j * 4,none⟩=some (.string W[j].t)
 c1:∀ j (h:j < W.length),w.cell? ⟨b,j * 4+1,none⟩=some (.int .u8 W[j].k.toNat)
 c2:∀ j (h:j < W.length),w.cell? ⟨b,j * 4+2,none⟩=some (.int .i64 W[j].a)
 c3:∀ j (h:j < W.length),w.cell? ⟨b,j * 4+3,none⟩=some (.string W[j].v)
theorem WdsAt.ext {w w':World} {b:Nat} {W:List Wd} (h:WdsAt w b W) (hx:Ext w w'):WdsAt w' b W :=
 ⟨Nat.lt_of_lt_of_le h.lt hx.size,fun j hj=>hx.cell (h.c0 j hj),fun j hj=>hx.cell (h.c1 j hj),fun j hj=>hx.cell (h.c2 j hj),fun j hj=>hx.cell (h.c3 j hj)⟩
theorem WdsAt.extX {g:Nat} {w w':World} {b:Nat} {W:List Wd} (h:WdsAt w b W) (hx:ExtX g w w') (hb:b≠g):WdsAt w' b W :=
 ⟨Nat.lt_of_lt_of_le h.lt hx.size,fun j hj=>hx.cell hb (h.c0 j hj),fun j hj=>hx.cell hb (h.c1 j hj),fun j hj=>hx.cell hb (h.c2 j hj),fun j hj=>hx.cell hb (h.c3 j hj)⟩
theorem WdsAt.far {w:World} {b:Nat} {W:List Wd} (h:WdsAt w b W) {p:Addr} (hp:b≠p.block) (u:Value):WdsAt (w.setCell p u) b W :=
 ⟨by have:=h.lt;simpa [World.setCell] using this,fun j hj=>cell_set_far hp (h.c0 j hj),fun j hj=>cell_set_far hp (h.c1 j hj),fun j hj=>cell_set_far hp (h.c2 j hj),fun j hj=>cell_set_far hp (h.c3 j hj)⟩
structure RdR (w:World) (g b:Nat) (W:List Wd) (τ:Rs):Prop where
 ne:b≠g
 wds:WdsAt w b W
 rd:∃ j cp,j < W.length∧τ.l=W.drop j∧W.length - j<=cp∧Blk w g 156 #[.slice (some ⟨b,j * 4,none⟩) (W.length - j) cp,.int .i64 τ.bad]
namespace RdR
variable {w w':World} {g b:Nat} {W:List Wd} {τ:Rs}
theorem suf (h:RdR w g b W τ):SufR W τ:=by
 obtain⟨j,cp,hj,hl,_⟩:=h.rd
 exact⟨j,hj,hl⟩
theorem lt (h:RdR w g b W τ):g < w.heap.size:=by
 obtain⟨j,cp,hj,hl,_,hb⟩:=h.rd
 exact hb.lt
theorem ext (h:RdR w g b W τ) (hx:Ext w w'):RdR w' g b W τ:=by
 obtain⟨j,cp,hj,hl,hc,hb⟩:=h.rd
 exact⟨h.ne,h.wds.ext hx,j,cp,hj,hl,hc,hb.ext hx⟩
theorem alloc (h:RdR w g b W τ) (o:Obj):RdR (w.alloc o) g b W τ:=h.ext ((Ext.refl w).alloc o)
theorem far (h:RdR w g b W τ) {p:Addr} (hp:g≠p.block) (hp2:b≠p.block) (u:Value):RdR (w.setCell p u) g b W τ:=by
 obtain⟨j,cp,hj,hl,hc,hb⟩:=h.rd
 exact⟨h.ne,h.wds.far hp2 u,j,cp,hj,hl,hc,hb.far hp u⟩
theorem setBad (h:RdR w g b W τ) (z:Int):RdR (w.setCell ⟨g,1,none⟩ (.int .i64 z)) g b W ⟨τ.l,z⟩:=by
 obtain⟨j,cp,hj,hl,hc,hb⟩:=h.rd
 exact⟨h.ne,h.wds.far (p:=⟨g,1,none⟩) h.ne _,j,cp,hj,hl,hc,hb.set 1 _⟩
theorem opened (h:RdR w g b W τ):∃ j cp m,j < W.length∧τ.l=W.drop j∧W.length - j=m∧0 < m∧m<=cp∧Blk w g 156 #[.slice (some ⟨b,j * 4,none⟩) m cp,.int .i64 τ.bad] ∧
 w.cell? ⟨b,j * 4,none⟩=some (.string τ.hd.t)∧w.cell? ⟨b,j * 4+1,none⟩=some (.int .u8 τ.hd.k.toNat)∧w.cell? ⟨b,j * 4+2,none⟩=some (.int .i64 τ.hd.a)∧w.cell? ⟨b,j * 4+3,none⟩=some (.string τ.hd.v):=by
 obtain⟨j,cp,hj,hl,hc,hb⟩:=h.rd
 have hh:τ.hd=W[j]:=by
  unfold Rs.hd
  rw[hl,List.drop_eq_getElem_cons hj]
  rfl
 rw[hh]
 exact⟨j,cp,_,hj,hl,rfl,by omega,hc,hb,h.wds.c0 j hj,h.wds.c1 j hj,h.wds.c2 j hj,h.wds.c3 j hj⟩
end RdR
theorem keq (a b:UInt8):((a.toNat:Int)==(b.toNat:Int))=decide (a=b):=by
 rw[ieq]
 by_cases h:a=b
 ·rw[decide_eq_true h,decide_eq_true (by rw[h])]
 ·rw[decide_eq_false h,decide_eq_false (fun e=>h (UInt8.toNat_inj.1 (by omega)))]
theorem isR_any (g b:Nat) (W:List Wd) (τ:Rs) (k:UInt8) (t:ByteArray) (w:World) (h:RdR w g b W τ) :
 Calls Tryz.prog 177 #[.pointer (some ⟨g,0,none⟩),.int .u8 k.toNat,.string t] w fun e w'=>e=.returned (.bool (isR τ k (bs t)))∧w=w':=by
 obtain⟨j,cp,m,_,_,_,hm,hmc,hb,c0,c1,c2,c3⟩:=h.opened
 have c:=hb.cell
 have hm2:(0:Int) < m:=by omega
 unfold isR
 generalize τ.hd=d at *
 obtain⟨dt,dk,da,dv⟩:=d
 obtain⟨tl,bad⟩:=τ
 dsimp only at *
 by_cases h1:bad < 0
 ·by_cases h2:dk=k
  ·subst h2
   have e2:((dk.toNat:Int)==(dk.toNat:Int))=true:=by rw[keq,decide_eq_true rfl]
   rcases Nat.eq_zero_or_pos t.size with ht|ht
   ·have he:=emp_bool ht
    have hn:bs t=[]:=bs_nil ht
    rw[decide_eq_true h1,decide_eq_true rfl,decide_eq_true hn]
    clear hn h hb
    go_enter Tryz.func177,Tryz.ntmps177
    go_wp2
    go_ret
    exact⟨rfl,rfl⟩
   have he:=nemp_bool ht
   have hn:bs t≠[]:=fun e=>by rw[<-bs_length,e] at ht;exact Nat.lt_irrefl _ ht
   by_cases h3:bs dt=bs t
   ·have e3:(dt.toList==t.toList)=true:=by rw[eqE,decide_eq_true h3]
    rw[decide_eq_true h1,decide_eq_true rfl,decide_eq_true h3,decide_eq_false hn]
    clear h3 hn h hb
    go_enter Tryz.func177,Tryz.ntmps177
    go_wp2
    go_ret
    exact⟨rfl,rfl⟩
   ·have e3:(dt.toList==t.toList)=false:=by rw[eqE,decide_eq_false h3]
    rw[decide_eq_true h1,decide_eq_true rfl,decide_eq_false h3,decide_eq_false hn]
    clear h3 hn h hb
    go_enter Tryz.func177,Tryz.ntmps177
    go_wp2
    go_ret
    exact⟨rfl,rfl⟩
  ·have e2:((dk.toNat:Int)==(k.toNat:Int))=false:=by rw[keq,decide_eq_false h2]
   rw[decide_eq_true h1,decide_eq_false h2]
   clear h2 h hb
   go_enter Tryz.func177,Tryz.ntmps177
   go_wp2
   go_ret
   exact⟨rfl,rfl⟩
 ·rw[decide_eq_false h1]
  clear h hb
  go_enter Tryz.func177,Tryz.ntmps177
  go_wp2
  go_ret
  exact⟨rfl,rfl⟩
set_option maxRecDepth 100000 in
set_option maxHeartbeats 4000000 in
theorem nextR_any (g b:Nat) (W:List Wd) (hW:LastE W) (τ:Rs) (k:UInt8) (t:ByteArray) (w:World) (h:RdR w g b W τ) :
 Calls Tryz.prog 104 #[.pointer (some ⟨g,0,none⟩),.int .u8 k.toNat,.string t] w fun e w'=>e=.returned (wdV (nextR τ k (bs t)).1)∧RdR w' g b W (nextR τ k (bs t)).2∧ExtX g w w':=by
 have hgw:=h.lt
 have hbw:=h.wds.lt
 have hsuf:=h.suf
 obtain⟨j,cp,m,hj,hl,hjm,hm,hmc,hb,c0,c1,c2,c3⟩:=h.opened
 have c:=hb.cell;have f:=hb.free
 have hm2:(0:Int) < m:=by omega
 have hne:g≠w.heap.size:=by omega
 have hne1:g≠w.heap.size+1:=by omega
 have hbb:b≠w.heap.size:=by omega
 have hbb1:b≠w.heap.size+1:=by omega
 have HH:=Hy h
 unfold nextR
 by_cases h1:τ.bad < 0
 rotate_left
 ·rw[if_pos h1]
  clear h hb hsuf hl
  go_enter Tryz.func104,Tryz.ntmps104
  go_wp2
  exact bodyPost_ret (v:=wdV zeroW) (by simp[results,Tryz.results104,go_sem]) rfl ⟨rfl,(HH.out.alloc _).alloc _,((ExtX.refl g w).alloc _).alloc _⟩
 have n1:¬ ¬ τ.bad < 0:=fun x=>x h1
 rw[if_neg n1]
 clear n1
 by_cases h2:τ.hd.k=k
 rotate_left
 ·rw[if_pos (.inl h2)]
  have e2:((τ.hd.k.toNat:Int) != (k.toNat:Int))=true:=by rw[bne,keq,decide_eq_false h2];rfl
  clear h2 h hb hsuf hl
  go_enter Tryz.func104,Tryz.ntmps104
  go_wp2
  exact bodyPost_ret (v:=wdV zeroW) (by simp[results,Tryz.results104,go_sem]) rfl ⟨rfl,((HH.out.setBad _).alloc _).alloc _,(((ExtX.refl g w).setG _ _).alloc _).alloc _⟩
 have e2:((τ.hd.k.toNat:Int) != (k.toNat:Int))=false:=by rw[bne,keq,decide_eq_true h2];rfl
 have hgo:t.size=0∨(0 < t.size∧bs t≠[]):=by
  rcases Nat.eq_zero_or_pos t.size with ht|ht
  ·exact .inl ht
  ·exact .inr ⟨ht,fun e=>by rw[<-bs_length,e] at ht;exact Nat.lt_irrefl _ ht⟩
 by_cases h3:bs t≠[]∧bs τ.hd.t≠bs t
 ·have ht:0 < t.size:=hgo.elim (fun x=>absurd (bs_nil x) h3.1) (fun x=>x.1)
  have he:=nemp_bool ht
  rw[if_pos (.inr h3)]
  have e3:(τ.hd.t.toList==t.toList)=false:=by rw[eqE,decide_eq_false h3.2]
  have e4:(τ.hd.t.toList != t.toList)=true:=by rw[bne,e3];rfl
  clear h3 hgo h hb hsuf hl
  go_enter Tryz.func104,Tryz.ntmps104
  go_wp2
  exact bodyPost_ret (v:=wdV zeroW) (by simp[results,Tryz.results104,go_sem]) rfl ⟨rfl,((HH.out.setBad _).alloc _).alloc _,(((ExtX.refl g w).setG _ _).alloc _).alloc _⟩
 rw[if_neg (by rintro (x|x);exact x h2;exact h3 x)]
 dsimp only
 by_cases h5:τ.hd.k=101
 ·rw[if_neg (fun x=>x h5)]
  have e5:((τ.hd.k.toNat:Int) != 101)=false:=by rw[h5];rfl
  rcases hgo with ht|⟨ht,hn⟩
  ·have he:=emp_bool ht
   clear h5 h3 h h2 hb hsuf hl
   go_enter Tryz.func104,Tryz.ntmps104
   go_wp2
   exact bodyPost_ret (v:=wdV τ.hd) (by simp[results,Tryz.results104,go_sem]) rfl ⟨rfl,(HH.out.alloc _).alloc _,((ExtX.refl g w).alloc _).alloc _⟩
  ·have he:=nemp_bool ht
   have h6:bs τ.hd.t=bs t:=Classical.byContradiction fun x=>h3 ⟨hn,x⟩
   have e3:(τ.hd.t.toList==t.toList)=true:=by rw[eqE,decide_eq_true h6]
   have e4:(τ.hd.t.toList != t.toList)=false:=by rw[bne,e3];rfl
   clear h5 h3 h h2 hb hsuf hl hn h6
   go_enter Tryz.func104,Tryz.ntmps104
   go_wp2
   exact bodyPost_ret (v:=wdV τ.hd) (by simp[results,Tryz.results104,go_sem]) rfl ⟨rfl,(HH.out.alloc _).alloc _,((ExtX.refl g w).alloc _).alloc _⟩
 ·rw[if_pos h5]
  have e5:((τ.hd.k.toNat:Int) != 101)=true:=by rw[bne_iff_ne];intro e;exact h5 (UInt8.toNat_inj.1 (by show τ.hd.k.toNat=101;omega))
  obtain⟨j2,hj2,hl2⟩:=suf_tail hW (b:=τ.bad) hsuf h5
  have hj3:j2=j+1:=by
   have e:=congrArg List.length hl2
   rw[List.length_tail,hl,List.length_drop,List.length_drop] at e
   omega
  subst hj3
  have hm1:(1:Int) < m:=by omega
  have hcp1:(1:Int) < cp:=by omega
  have hcp2:¬ cp=1:=by omega
  have hnew:RdR (w.setCell ⟨g,0,none⟩ (.slice (some ⟨b,j * 4+4,none⟩) (m - 1) (cp - 1))) g b W ⟨W.drop (j+1),τ.bad⟩ :=
   ⟨h.ne,h.wds.far (p:=⟨g,0,none⟩) h.ne _,j+1,cp - 1,hj2,rfl,by omega,by rw[show (j+1) * 4=j * 4+4 by omega,show W.length - (j+1)=m - 1 by omega];exact hb.set 0 _⟩
  rw[show τ.l.tail=W.drop (j+1) from hl2]
  have HN:=Hy hnew
  clear hnew hl2
  rcases hgo with ht|⟨ht,hn⟩
  ·have he:=emp_bool ht
   clear h5 h3 h h2 hb hsuf hl
   go_enter Tryz.func104,Tryz.ntmps104
   go_wp2
   exact bodyPost_ret (v:=wdV τ.hd) (by simp[results,Tryz.results104,go_sem]) rfl ⟨rfl,(HN.out.alloc _).alloc _,(((ExtX.refl g w).setG _ _).alloc _).alloc _⟩
  ·have he:=nemp_bool ht
   have h6:bs τ.hd.t=bs t:=Classical.byContradiction fun x=>h3 ⟨hn,x⟩
   have e3:(τ.hd.t.toList==t.toList)=true:=by rw[eqE,decide_eq_true h6]
   have e4:(τ.hd.t.toList != t.toList)=false:=by rw[bne,e3];rfl
   clear h5 h3 h h2 hb hsuf hl hn h6
   go_enter Tryz.func104,Tryz.ntmps104
   go_wp2
   exact bodyPost_ret (v:=wdV τ.hd) (by simp[results,Tryz.results104,go_sem]) rfl ⟨rfl,(HN.out.alloc _).alloc _,(((ExtX.refl g w).setG _ _).alloc _).alloc _⟩
end Go.Proofs.YtmnafaaijglnfaaGreatDoor
