/- The condition reader of the reference in memory: 'is', 'next'. -/
import Derived.Test.YtmnafaaijglnfaaGreatDoorOm10
namespace Go.Proofs.YtmnafaaijglnfaaGreatDoor
open Go.RowKit
structure WdsAt (w:World) (b:Nat) (W:List Wd):Prop where
 lt:b < w.heap.size
 c0:∀ j (h:j < W.length),w.cell? ⟨b,j * 4,none⟩=some (.string W[j].t)
 c1:∀ j (h:j < W.length),w.cell? ⟨b,j * 4+1,none⟩=some (.int .u8 W[j].k.toNat)
 c2:∀ j (h:j < W.length),w.cell? ⟨b,j * 4+2,none⟩=some (.int .i64 W[j].a)
 c3:∀ j (h:j < W.length),w.cell? ⟨b,j * 4+3,none⟩=some (.string W[j].v)
theorem WdsAt.ext {w w':World} {b:Nat} {W:List Wd} (h:WdsAt w b W) (hx:Ext w w'):WdsAt w' b W :=
 ⟨Nat.lt_of_lt_of_le h.lt hx.size,fun j hj=>hx.cell (h.c0 j hj),fun j hj=>hx.cell (h.c1 j hj),fun j hj=>hx.cell (h.c2 j hj),fun j hj=>hx.cell (h.c3 j hj)⟩
theorem WdsAt.far {w:World} {b:Nat} {W:List Wd} (h:WdsAt w b W) {p:Addr} (hp:b≠p.block) (u:Value):WdsAt (w.setCell p u) b W :=
 ⟨by have:=h.lt;simpa [World.setCell] using this,fun j hj=>cell_set_far hp (h.c0 j hj),fun j hj=>cell_set_far hp (h.c1 j hj),fun j hj=>cell_set_far hp (h.c2 j hj),fun j hj=>cell_set_far hp (h.c3 j hj)⟩
structure RdR (w:World) (g b:Nat) (W:List Wd) (τ:Rs):Prop where
 ne:b≠g
 wds:WdsAt w b W
 rd:∃ j cp,j < W.length∧τ.l=W.drop j∧W.length - j<=cp∧Blk w g 156 #[.slice (some ⟨b,j * 4,none⟩) (W.length - j) cp,.int .i64 τ.bad]
namespace RdR
variable {w w':World} {g b:Nat} {W:List Wd} {τ:Rs}
theorem suf (h:RdR w g b W τ):SufR W τ:=by
 obtain⟨j,cp,hj,hl,_⟩:=h.rd
 exact⟨j,hj,hl⟩
theorem lt (h:RdR w g b W τ):g < w.heap.size:=by
 obtain⟨j,cp,hj,hl,_,hb⟩:=h.rd
 exact hb.lt
theorem ext (h:RdR w g b W τ) (hx:Ext w w'):RdR w' g b W τ:=by
 obtain⟨j,cp,hj,hl,hc,hb⟩:=h.rd
 exact⟨h.ne,h.wds.ext hx,j,cp,hj,hl,hc,hb.ext hx⟩
theorem alloc (h:RdR w g b W τ) (o:Obj):RdR (w.alloc o) g b W τ:=h.ext ((Ext.refl w).alloc o)
theorem far (h:RdR w g b W τ) {p:Addr} (hp:g≠p.block) (hp2:b≠p.block) (u:Value):RdR (w.setCell p u) g b W τ:=by
 obtain⟨j,cp,hj,hl,hc,hb⟩:=h.rd
 exact⟨h.ne,h.wds.far hp2 u,j,cp,hj,hl,hc,hb.far hp u⟩
theorem opened (h:RdR w g b W τ):∃ j cp m,j < W.length∧τ.l=W.drop j∧W.length - j=m∧0 < m∧m<=cp∧Blk w g 156 #[.slice (some ⟨b,j * 4,none⟩) m cp,.int .i64 τ.bad] ∧
 w.cell? ⟨b,j * 4,none⟩=some (.string τ.hd.t)∧w.cell? ⟨b,j * 4+1,none⟩=some (.int .u8 τ.hd.k.toNat)∧w.cell? ⟨b,j * 4+2,none⟩=some (.int .i64 τ.hd.a)∧w.cell? ⟨b,j * 4+3,none⟩=some (.string τ.hd.v):=by
 obtain⟨j,cp,hj,hl,hc,hb⟩:=h.rd
 have hh:τ.hd=W[j]:=by
  unfold Rs.hd
  rw[hl,List.drop_eq_getElem_cons hj]
  rfl
 rw[hh]
 exact⟨j,cp,_,hj,hl,rfl,by omega,hc,hb,h.wds.c0 j hj,h.wds.c1 j hj,h.wds.c2 j hj,h.wds.c3 j hj⟩
end RdR
end Go.Proofs.YtmnafaaijglnfaaGreatDoor
