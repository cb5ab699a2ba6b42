/- The order of items: pack.comparePlaces, ItemsOf's closure. (Printed by gen/paa.py.) -/
import Derived.Test.YtmpccllnpcbgcaaGreatDoorPk02
import Derived.Test.YtmpccllnpcbgcaaGreatDoorPk04
import Derived.Test.YtmpccllnpcbgcaaGreatDoorPk08
import Derived.Test.YtmpccllnpcbgcaaGreatDoorPk09
import Derived.Test.YtmpccllnpcbgcaaGreatDoorPk19
import Derived.Test.YtmpccllnpcbgcaaGreatDoorPk22
import Derived.Test.YtmpccllnpcbgcaaGreatDoorPk24
import Derived.Test.YtmpccllnpcbgcaaGreatDoorPk25
import Derived.Test.YtmpccllnpcbgcaaGreatDoorPk27
import Derived.Test.YtmpccllnpcbgcaaGreatDoorPk29
import Derived.Test.YtmpccllnpcbgcaaGreatDoorPk36
import Derived.Test.YtmpccllnpcbgcaaGreatDoorPaL
import Derived.Test.YtmpccllnpcbgcaaGreatDoorProg
import Derived.Test.YtmpccllnpcbgcaaGreatDoorShelf
import Derived.Lib.Split
import Derived.Lib.IndexBytes
import Derived.Lib.ItoaLen
import Derived.WalkKit
import Derived.WalkSpells
import Derived.WalkLawsBesides
import Derived.LoopTactic
import Derived.Outline
import Derived.Lib.Hide
import Derived.Lib.LaidTab
import Derived.Lib.ConvBytes
import Derived.Lib.ItoaNum
import Derived.WalkSmall
import Derived.Sort.Grow
import Derived.Deep.QuietTactic
import Derived.BigQuiet
import Derived.Lib.Replace
import Derived.Lib.SplitLaws
import Derived.Laws.AppendOwn
import Derived.Laws.OwnMore
import Derived.Maps.AppendAt
import Derived.OwnWalk
import Derived.Lib.Join
import Derived.StillTail
import Derived.Lib.AtoiAll
import Derived.Lib.Small
import Derived.Lib.Bytealg
import Derived.Deep.DeepCutAuto
import Derived.Deep.AppendLies
import Derived.Deep.RegionHeld3
import Derived.Deep.RegionLaw
import Derived.MapKept
import Derived.Laws.StructEq
import Derived.Deep.LoopGhost
import Derived.Laws.Cells
import Derived.Maps.OwnSet
import Derived.Maps.StringElems
import Derived.Sort.Walk0
import Derived.Sort.KeysCollected
import Derived.Lib.SlicesCompact
import Derived.Maps.RangeWalk
import Derived.Deep.Upon
import Derived.ArgAppend
import Derived.Laws.MakeOwn
import Derived.DeepKeys3
import Derived.OrdersHeld
import Derived.RegionTactic
namespace Go.Proofs.YtmpccllnpcbgcaaGreatDoor
open Go.RowKit
theorem ready8 {ops:Array Oper} {q0 q1 q2 q3 q4 q5 q6 q7:Bool} (key:∀ q0 q1 q2 q3 q4 q5 q6 q7:Bool,(!(Region.ready .any ops ⟨[q0,q1,q2,q3,q4,q5,q6,q7]⟩).isEmpty||(q0&&q1&&q2&&q3&&q4&&q5&&q6&&q7))=true) (h:Region.ready .any ops ⟨[q0,q1,q2,q3,q4,q5,q6,q7]⟩=[]) :
 q0=true∧q1=true∧q2=true∧q3=true∧q4=true∧q5=true∧q6=true∧q7=true:=by
 have k:=key q0 q1 q2 q3 q4 q5 q6 q7
 rw[h] at k
 simpa [and_assoc] using k
def TwoJ (TP:TypeId) (W0:World) (A:Value->Value->Value->Value->Value->Value->Act) (vx vy:Value) (K1:Int) (N1:ByteArray) (K2:Int) (N2:ByteArray) (l:Array Bool) (a:Act) (w:World):Prop :=
 ∃ s5 s6 s7 s8 s9 s10,a=A s5 s6 s7 s8 s9 s10∧Ext W0 w∧(l.getD 0 false=true->s7=vx)∧(l.getD 1 false=true->s8=.agg #[.int .i64 K1,.string N1])∧(l.getD 2 false=true->s9=vy)∧(l.getD 3 false=true->s10=.agg #[.int .i64 K2,.string N2]) ∧
  (l.getD 6 false=true->l.getD 4 false=true)∧(l.getD 7 false=true->l.getD 5 false=true) ∧
  (l.getD 4 false=true->∃ g,s5=.pointer (some ⟨g,0,none⟩)∧W0.heap.size<=g∧Blk w g TP (if l.getD 6 false=true then #[.int .i64 K1,.string N1] else #[.int .i64 0,.string ⟨#[]⟩])∧(l.getD 5 false=true->s6≠s5)) ∧
  (l.getD 5 false=true->∃ g,s6=.pointer (some ⟨g,0,none⟩)∧W0.heap.size<=g∧Blk w g TP (if l.getD 7 false=true then #[.int .i64 K2,.string N2] else #[.int .i64 0,.string ⟨#[]⟩]))
set_option maxHeartbeats 8000000 in
set_option maxRecDepth 100000 in
theorem comparePlaces_any (x y:Itm) (w:World) :
 Calls Tryz.prog 230 #[itmV x,itmV y] w fun e w'=>e=.returned (.int .i64 (itCmp x y))∧Ext w w':=by
 have CX:=Hy (fun W=>placeOf_any x W)
 have CY:=Hy (fun W=>placeOf_any y W)
 have CS:=Hy (fun W=>compare_any (spotN x) (spotN y) W)
 have HF:=Hy (itCmp_first x y)
 have hk1:=spot_bound x;have hk2:=spot_bound y
 generalize itCmp x y=E at *
 generalize Lib.compareBytes (bs (spotN x)) (bs (spotN y))=Z at *
 generalize spotK x=K1 at *
 generalize spotN x=N1 at *
 generalize spotK y=K2 at *
 generalize spotN y=N2 at *
 obtain⟨xk,xp,xd,xr,xe,xv,xs,xq,xa,xo⟩:=x
 obtain⟨yk,yp,yd,yr,ye,yv,ys,yq,ya,yo⟩:=y
 dsimp only[itmV] at *
 have b1:=(Blk.new w 104 #[.int .i64 xk,.string xp,.string xd,.bool xr,.string xe,.string xv,.string xs,.string xq,.bool xa,.bool xo]).alloc (.cells #[.int .i64 yk,.string yp,.string yd,.bool yr,.string ye,.string yv,.string ys,.string yq,.bool ya,.bool yo] 104)
 have b2:=Blk.new (w.alloc (.cells #[.int .i64 xk,.string xp,.string xd,.bool xr,.string xe,.string xv,.string xs,.string xq,.bool xa,.bool xo] 104)) 104 #[.int .i64 yk,.string yp,.string yd,.bool yr,.string ye,.string yv,.string ys,.string yq,.bool ya,.bool yo]
 rw[World.size_alloc] at b2
 have hx0:Ext w ((w.alloc (.cells #[.int .i64 xk,.string xp,.string xd,.bool xr,.string xe,.string xv,.string xs,.string xq,.bool xa,.bool xo] 104)).alloc (.cells #[.int .i64 yk,.string yp,.string yd,.bool yr,.string ye,.string yv,.string ys,.string yq,.bool ya,.bool yo] 104)):=((Ext.refl w).alloc _).alloc _
 generalize hW:(w.alloc (.cells #[.int .i64 xk,.string xp,.string xd,.bool xr,.string xe,.string xv,.string xs,.string xq,.bool xa,.bool xo] 104)).alloc (.cells #[.int .i64 yk,.string yp,.string yd,.bool yr,.string ye,.string yv,.string ys,.string yq,.bool ya,.bool yo] 104)=W0 at *
 have HW:=Hy hW
 clear hW
 have e1:=b1.cell;have e2:=b2.cell;have l1:=b1.lt;have l2:=b2.lt
 go_enter Tryz.func230,Tryz.ntmps230
 go_wp2_with fail
 rw[HW.out]
 refine wp_region_inv (by kernel_rfl) (TwoJ 269 W0 (fun s5 s6 s7 s8 s9 s10=>⟨(.agg #[.int .i64 xk,.string xp,.string xd,.bool xr,.string xe,.string xv,.string xs,.string xq,.bool xa,.bool xo]::.agg #[.int .i64 yk,.string yp,.string yd,.bool yr,.string ye,.string yv,.string ys,.string yq,.bool ya,.bool yo]::.pointer (some ⟨w.heap.size,0,none⟩)::.pointer (some ⟨w.heap.size+1,0,none⟩)::.int .i64 0::s5::s6::s7::s8::s9::s10::List.replicate 15 undef).toArray,[]⟩) (.agg #[.int .i64 xk,.string xp,.string xd,.bool xr,.string xe,.string xv,.string xs,.string xq,.bool xa,.bool xo]) (.agg #[.int .i64 yk,.string yp,.string yd,.bool yr,.string ye,.string yv,.string ys,.string yq,.bool ya,.bool yo]) K1 N1 K2 N2) ⟨undef,undef,undef,undef,undef,undef,rfl,Ext.drew (Ext.refl _),nofun,nofun,nofun,nofun,nofun,nofun,nofun,nofun⟩ ?_ ?_
 ·intro i o listed a w' hsz hop hnl haf hJ K hK
  obtain⟨L⟩:=listed
  match L,hsz with
  | [q0,q1,q2,q3,q4,q5,q6,q7],_ =>
    obtain⟨s5,s6,s7,s8,s9,s10,rfl,hxw,h7,h8,h9,h10,c6,c7,h5,h6⟩:=hJ
    dsimp only[List.replicate] at *
    have f1:=(b1.ext hxw).cell;have f2:=(b2.ext hxw).cell;have m1:=(b1.ext hxw).lt;have m2:=(b2.ext hxw).lt
    match i,hop with
    | 0,hop =>
      obtain rfl:=Option.some.inj (show some _=some o from hop)
      rw[if_pos (by rfl)]
      go_simp
      exact hK _ _ ⟨_,_,_,_,_,_,rfl,hxw,fun _=>rfl,h8,h9,h10,c6,c7,h5,h6⟩
    | 1,hop =>
      obtain rfl:=Option.some.inj (show some _=some o from hop)
      obtain rfl:=h7 (haf ⟨0,.data⟩ (Array.mem_of_getElem? (i:=0) rfl) rfl)
      rw[if_pos (by rfl)]
      go_simp
      go_at_call 211
      refine (CX.out _).mono ?_
      rintro e w'' ⟨rfl,hx⟩
      exact hK _ _ ⟨_,_,_,_,_,_,rfl,hxw.trans hx,fun _=>rfl,fun _=>rfl,h9,h10,c6,c7,fun h=>(h5 h).elim fun g k=>⟨g,k.1,k.2.1,k.2.2.1.ext hx,k.2.2.2⟩,fun h=>(h6 h).elim fun g k=>⟨g,k.1,k.2.1,k.2.2.ext hx⟩⟩
    | 2,hop =>
      obtain rfl:=Option.some.inj (show some _=some o from hop)
      rw[if_pos (by rfl)]
      go_simp
      exact hK _ _ ⟨_,_,_,_,_,_,rfl,hxw,h7,h8,fun _=>rfl,h10,c6,c7,h5,h6⟩
    | 3,hop =>
      obtain rfl:=Option.some.inj (show some _=some o from hop)
      obtain rfl:=h9 (haf ⟨2,.data⟩ (Array.mem_of_getElem? (i:=0) rfl) rfl)
      rw[if_pos (by rfl)]
      go_simp
      go_at_call 211
      refine (CY.out _).mono ?_
      rintro e w'' ⟨rfl,hx⟩
      exact hK _ _ ⟨_,_,_,_,_,_,rfl,hxw.trans hx,h7,h8,fun _=>rfl,fun _=>rfl,c6,c7,fun h=>(h5 h).elim fun g k=>⟨g,k.1,k.2.1,k.2.2.1.ext hx,k.2.2.2⟩,fun h=>(h6 h).elim fun g k=>⟨g,k.1,k.2.1,k.2.2.ext hx⟩⟩
    | 4,hop =>
      obtain rfl:=Option.some.inj (show some _=some o from hop)
      obtain rfl:q4=false:=hnl
      obtain rfl:q6=false:=by
       cases q6
       ·rfl
       ·cases c6 rfl
      rw[if_pos (by rfl)]
      go_simp
      have hz:=hxw.size
      exact hK _ _ ⟨_,_,_,_,_,_,rfl,hxw.alloc _,h7,h8,h9,h10,fun _=>rfl,c7,fun _=>⟨w'.heap.size,rfl,hz,Blk.new w' _ _,fun h=>by
       obtain⟨g,rfl,_,k⟩:=h6 h
       intro e
       injection e with e;injection e with e;injection e with e
       have:=k.lt;omega⟩,fun h=>(h6 h).elim fun g k=>⟨g,k.1,k.2.1,k.2.2.alloc _⟩⟩
    | 5,hop =>
      obtain rfl:=Option.some.inj (show some _=some o from hop)
      obtain rfl:q5=false:=hnl
      obtain rfl:q7=false:=by
       cases q7
       ·rfl
       ·cases c7 rfl
      rw[if_pos (by rfl)]
      go_simp
      have hz:=hxw.size
      exact hK _ _ ⟨_,_,_,_,_,_,rfl,hxw.alloc _,h7,h8,h9,h10,c6,fun _=>rfl,fun h=>(h5 h).elim fun g k=>⟨g,k.1,k.2.1,k.2.2.1.alloc _,fun _=>by
       obtain⟨rfl,_,k,_⟩:=k
       intro e
       injection e with e;injection e with e;injection e with e
       have:=k.lt;omega⟩,fun _=>⟨w'.heap.size,rfl,hz,Blk.new w' _ _⟩⟩
    | 6,hop =>
      obtain rfl:=Option.some.inj (show some _=some o from hop)
      obtain rfl:q4=true:=haf ⟨4,.data⟩ (Array.mem_of_getElem? (i:=0) rfl) rfl
      obtain rfl:q6=false:=hnl
      obtain rfl:=h8 (haf ⟨1,.data⟩ (Array.mem_of_getElem? (i:=1) rfl) rfl)
      obtain⟨g,rfl,hg,k,hne⟩:=h5 rfl
      have kc:=k.cell;have kf:=k.free;have kl:=k.lt
      rw[if_pos (by rfl)]
      go_simp
      exact hK _ _ ⟨_,_,_,_,_,_,rfl,(hxw.setCell (p:=⟨g,0,none⟩) hg _).setCell (p:=⟨g,1,none⟩) hg _,h7,fun _=>rfl,h9,h10,fun _=>rfl,c7,fun _=>⟨g,rfl,hg,(k.set 0 _).set 1 _,hne⟩,fun h=>by
       obtain⟨g',rfl,hg',k'⟩:=h6 h
       have hgg:g'≠g:=fun e=>hne h (by rw[e])
       exact⟨g',rfl,hg',(k'.far (p:=⟨g,0,none⟩) hgg _).far (p:=⟨g,1,none⟩) hgg _⟩⟩
    | 7,hop =>
      obtain rfl:=Option.some.inj (show some _=some o from hop)
      obtain rfl:q5=true:=haf ⟨5,.data⟩ (Array.mem_of_getElem? (i:=0) rfl) rfl
      obtain rfl:q7=false:=hnl
      obtain rfl:=h10 (haf ⟨3,.data⟩ (Array.mem_of_getElem? (i:=1) rfl) rfl)
      obtain⟨g,rfl,hg,k⟩:=h6 rfl
      have kc:=k.cell;have kf:=k.free;have kl:=k.lt
      rw[if_pos (by rfl)]
      go_simp
      exact hK _ _ ⟨_,_,_,_,_,_,rfl,(hxw.setCell (p:=⟨g,0,none⟩) hg _).setCell (p:=⟨g,1,none⟩) hg _,h7,h8,h9,fun _=>rfl,c6,fun _=>rfl,fun h=>by
       obtain⟨g',rfl,hg',k',hne⟩:=h5 h
       have hgg:g'≠g:=fun e=>hne rfl (by rw[e])
       exact⟨g',rfl,hg',(k'.far (p:=⟨g,0,none⟩) hgg _).far (p:=⟨g,1,none⟩) hgg _,hne⟩,fun _=>⟨g,rfl,hg,(k.set 0 _).set 1 _⟩⟩
    | i+8,hop=>exact absurd hop (by simp)
 ·intro listed a w' hsz hrd hJ
  obtain⟨L⟩:=listed
  match L,hsz,hrd with
  | [q0,q1,q2,q3,q4,q5,q6,q7],hz,hrd =>
    clear hz
    obtain⟨rfl,rfl,rfl,rfl,rfl,rfl,rfl,rfl⟩:q0=true∧q1=true∧q2=true∧q3=true∧q4=true∧q5=true∧q6=true∧q7=true:=by
     exact ready8 (by decide +kernel) hrd
    obtain⟨s5,s6,s7,s8,s9,s10,rfl,hxw,h7,h8,h9,h10,c6,c7,h5,h6⟩:=hJ
    obtain rfl:=h7 rfl;obtain rfl:=h8 rfl;obtain rfl:=h9 rfl;obtain rfl:=h10 rfl
    obtain⟨g1,rfl,hg1,p1,hne⟩:=h5 rfl
    obtain⟨g2,rfl,hg2,p2⟩:=h6 rfl
    dsimp only[List.replicate] at *
    clear hne h5 h6 h7 h8 h9 h10 c6 c7 hrd CX CY HW b1 b2 e1 e2 l1 l2
    obtain⟨wN,rfl⟩:∃ W:World,W=w':=⟨_,rfl⟩
    have hxb:=hx0.trans hxw
    have e1:=p1.cell;have e2:=p2.cell;have l1:=p1.lt;have l2:=p2.lt
    by_cases hk:K1=K2
    ·subst hk
     have hne:(K1 != K1)=false:=by simp
     have HF2:=Hy (show Z=E from by rw[<-HF.out];by_cases h:Z=0<;>simp[firstI,h])
     clear HF hk1 hk2
     go_wp2_with fail
     refine (CS.out _).mono ?_
     rintro e w' ⟨rfl,rfl⟩
     go_wp2
     go_ret
     exact⟨ret_int HF2.out,hxb⟩
    ·have hne:(K1 != K2)=true:=by rw[bne_iff_ne];exact hk
     have hwr:IntKind.i64.wrap (K1 - K2)=K1 - K2:=by rw[IntKind.wrap_i64];omega
     have HF2:=Hy (show K1 - K2=E from by rw[<-HF.out];simp[firstI,show ¬ K1 - K2=0 by omega])
     clear HF hk1 hk2 hk
     go_wp2
     go_ret
     exact⟨ret_int HF2.out,hxb⟩
set_option maxHeartbeats 8000000 in
set_option maxRecDepth 100000 in
theorem itemsOfC_any (x y:Itm) (w:World) :
 Calls Tryz.prog 139 #[itmV x,itmV y] w fun e w'=>e=.returned (.int .i64 (itCmp x y))∧Ext w w':=by
 have CX:=Hy (fun W=>SpotOf_any x W)
 have CY:=Hy (fun W=>SpotOf_any y W)
 have CS:=Hy (fun W=>compare_any (spotN x) (spotN y) W)
 have HF:=Hy (itCmp_first x y)
 have hk1:=spot_bound x;have hk2:=spot_bound y
 generalize itCmp x y=E at *
 generalize Lib.compareBytes (bs (spotN x)) (bs (spotN y))=Z at *
 generalize spotK x=K1 at *
 generalize spotN x=N1 at *
 generalize spotK y=K2 at *
 generalize spotN y=N2 at *
 obtain⟨xk,xp,xd,xr,xe,xv,xs,xq,xa,xo⟩:=x
 obtain⟨yk,yp,yd,yr,ye,yv,ys,yq,ya,yo⟩:=y
 dsimp only[itmV] at *
 have b1:=(Blk.new w 104 #[.int .i64 xk,.string xp,.string xd,.bool xr,.string xe,.string xv,.string xs,.string xq,.bool xa,.bool xo]).alloc (.cells #[.int .i64 yk,.string yp,.string yd,.bool yr,.string ye,.string yv,.string ys,.string yq,.bool ya,.bool yo] 104)
 have b2:=Blk.new (w.alloc (.cells #[.int .i64 xk,.string xp,.string xd,.bool xr,.string xe,.string xv,.string xs,.string xq,.bool xa,.bool xo] 104)) 104 #[.int .i64 yk,.string yp,.string yd,.bool yr,.string ye,.string yv,.string ys,.string yq,.bool ya,.bool yo]
 rw[World.size_alloc] at b2
 have hx0:Ext w ((w.alloc (.cells #[.int .i64 xk,.string xp,.string xd,.bool xr,.string xe,.string xv,.string xs,.string xq,.bool xa,.bool xo] 104)).alloc (.cells #[.int .i64 yk,.string yp,.string yd,.bool yr,.string ye,.string yv,.string ys,.string yq,.bool ya,.bool yo] 104)):=((Ext.refl w).alloc _).alloc _
 generalize hW:(w.alloc (.cells #[.int .i64 xk,.string xp,.string xd,.bool xr,.string xe,.string xv,.string xs,.string xq,.bool xa,.bool xo] 104)).alloc (.cells #[.int .i64 yk,.string yp,.string yd,.bool yr,.string ye,.string yv,.string ys,.string yq,.bool ya,.bool yo] 104)=W0 at *
 have HW:=Hy hW
 clear hW
 have e1:=b1.cell;have e2:=b2.cell;have l1:=b1.lt;have l2:=b2.lt
 go_enter Tryz.func139,Tryz.ntmps139
 go_wp2_with fail
 rw[HW.out]
 refine wp_region_inv (by kernel_rfl) (TwoJ 214 W0 (fun s5 s6 s7 s8 s9 s10=>⟨(.agg #[.int .i64 xk,.string xp,.string xd,.bool xr,.string xe,.string xv,.string xs,.string xq,.bool xa,.bool xo]::.agg #[.int .i64 yk,.string yp,.string yd,.bool yr,.string ye,.string yv,.string ys,.string yq,.bool ya,.bool yo]::.pointer (some ⟨w.heap.size,0,none⟩)::.pointer (some ⟨w.heap.size+1,0,none⟩)::.int .i64 0::s5::s6::s7::s8::s9::s10::List.replicate 12 undef).toArray,[]⟩) (.agg #[.int .i64 xk,.string xp,.string xd,.bool xr,.string xe,.string xv,.string xs,.string xq,.bool xa,.bool xo]) (.agg #[.int .i64 yk,.string yp,.string yd,.bool yr,.string ye,.string yv,.string ys,.string yq,.bool ya,.bool yo]) K1 N1 K2 N2) ⟨undef,undef,undef,undef,undef,undef,rfl,Ext.drew (Ext.refl _),nofun,nofun,nofun,nofun,nofun,nofun,nofun,nofun⟩ ?_ ?_
 ·intro i o listed a w' hsz hop hnl haf hJ K hK
  obtain⟨L⟩:=listed
  match L,hsz with
  | [q0,q1,q2,q3,q4,q5,q6,q7],_ =>
    obtain⟨s5,s6,s7,s8,s9,s10,rfl,hxw,h7,h8,h9,h10,c6,c7,h5,h6⟩:=hJ
    dsimp only[List.replicate] at *
    have f1:=(b1.ext hxw).cell;have f2:=(b2.ext hxw).cell;have m1:=(b1.ext hxw).lt;have m2:=(b2.ext hxw).lt
    match i,hop with
    | 0,hop =>
      obtain rfl:=Option.some.inj (show some _=some o from hop)
      rw[if_pos (by rfl)]
      go_simp
      exact hK _ _ ⟨_,_,_,_,_,_,rfl,hxw,fun _=>rfl,h8,h9,h10,c6,c7,h5,h6⟩
    | 1,hop =>
      obtain rfl:=Option.some.inj (show some _=some o from hop)
      obtain rfl:=h7 (haf ⟨0,.data⟩ (Array.mem_of_getElem? (i:=0) rfl) rfl)
      rw[if_pos (by rfl)]
      go_simp
      go_at_call 140
      refine (CX.out _).mono ?_
      rintro e w'' ⟨rfl,hx⟩
      exact hK _ _ ⟨_,_,_,_,_,_,rfl,hxw.trans hx,fun _=>rfl,fun _=>rfl,h9,h10,c6,c7,fun h=>(h5 h).elim fun g k=>⟨g,k.1,k.2.1,k.2.2.1.ext hx,k.2.2.2⟩,fun h=>(h6 h).elim fun g k=>⟨g,k.1,k.2.1,k.2.2.ext hx⟩⟩
    | 2,hop =>
      obtain rfl:=Option.some.inj (show some _=some o from hop)
      rw[if_pos (by rfl)]
      go_simp
      exact hK _ _ ⟨_,_,_,_,_,_,rfl,hxw,h7,h8,fun _=>rfl,h10,c6,c7,h5,h6⟩
    | 3,hop =>
      obtain rfl:=Option.some.inj (show some _=some o from hop)
      obtain rfl:=h9 (haf ⟨2,.data⟩ (Array.mem_of_getElem? (i:=0) rfl) rfl)
      rw[if_pos (by rfl)]
      go_simp
      go_at_call 140
      refine (CY.out _).mono ?_
      rintro e w'' ⟨rfl,hx⟩
      exact hK _ _ ⟨_,_,_,_,_,_,rfl,hxw.trans hx,h7,h8,fun _=>rfl,fun _=>rfl,c6,c7,fun h=>(h5 h).elim fun g k=>⟨g,k.1,k.2.1,k.2.2.1.ext hx,k.2.2.2⟩,fun h=>(h6 h).elim fun g k=>⟨g,k.1,k.2.1,k.2.2.ext hx⟩⟩
    | 4,hop =>
      obtain rfl:=Option.some.inj (show some _=some o from hop)
      obtain rfl:q4=false:=hnl
      obtain rfl:q6=false:=by
       cases q6
       ·rfl
       ·cases c6 rfl
      rw[if_pos (by rfl)]
      go_simp
      have hz:=hxw.size
      exact hK _ _ ⟨_,_,_,_,_,_,rfl,hxw.alloc _,h7,h8,h9,h10,fun _=>rfl,c7,fun _=>⟨w'.heap.size,rfl,hz,Blk.new w' _ _,fun h=>by
       obtain⟨g,rfl,_,k⟩:=h6 h
       intro e
       injection e with e;injection e with e;injection e with e
       have:=k.lt;omega⟩,fun h=>(h6 h).elim fun g k=>⟨g,k.1,k.2.1,k.2.2.alloc _⟩⟩
    | 5,hop =>
      obtain rfl:=Option.some.inj (show some _=some o from hop)
      obtain rfl:q5=false:=hnl
      obtain rfl:q7=false:=by
       cases q7
       ·rfl
       ·cases c7 rfl
      rw[if_pos (by rfl)]
      go_simp
      have hz:=hxw.size
      exact hK _ _ ⟨_,_,_,_,_,_,rfl,hxw.alloc _,h7,h8,h9,h10,c6,fun _=>rfl,fun h=>(h5 h).elim fun g k=>⟨g,k.1,k.2.1,k.2.2.1.alloc _,fun _=>by
       obtain⟨rfl,_,k,_⟩:=k
       intro e
       injection e with e;injection e with e;injection e with e
       have:=k.lt;omega⟩,fun _=>⟨w'.heap.size,rfl,hz,Blk.new w' _ _⟩⟩
    | 6,hop =>
      obtain rfl:=Option.some.inj (show some _=some o from hop)
      obtain rfl:q4=true:=haf ⟨4,.data⟩ (Array.mem_of_getElem? (i:=0) rfl) rfl
      obtain rfl:q6=false:=hnl
      obtain rfl:=h8 (haf ⟨1,.data⟩ (Array.mem_of_getElem? (i:=1) rfl) rfl)
      obtain⟨g,rfl,hg,k,hne⟩:=h5 rfl
      have kc:=k.cell;have kf:=k.free;have kl:=k.lt
      rw[if_pos (by rfl)]
      go_simp
      exact hK _ _ ⟨_,_,_,_,_,_,rfl,(hxw.setCell (p:=⟨g,0,none⟩) hg _).setCell (p:=⟨g,1,none⟩) hg _,h7,fun _=>rfl,h9,h10,fun _=>rfl,c7,fun _=>⟨g,rfl,hg,(k.set 0 _).set 1 _,hne⟩,fun h=>by
       obtain⟨g',rfl,hg',k'⟩:=h6 h
       have hgg:g'≠g:=fun e=>hne h (by rw[e])
       exact⟨g',rfl,hg',(k'.far (p:=⟨g,0,none⟩) hgg _).far (p:=⟨g,1,none⟩) hgg _⟩⟩
    | 7,hop =>
      obtain rfl:=Option.some.inj (show some _=some o from hop)
      obtain rfl:q5=true:=haf ⟨5,.data⟩ (Array.mem_of_getElem? (i:=0) rfl) rfl
      obtain rfl:q7=false:=hnl
      obtain rfl:=h10 (haf ⟨3,.data⟩ (Array.mem_of_getElem? (i:=1) rfl) rfl)
      obtain⟨g,rfl,hg,k⟩:=h6 rfl
      have kc:=k.cell;have kf:=k.free;have kl:=k.lt
      rw[if_pos (by rfl)]
      go_simp
      exact hK _ _ ⟨_,_,_,_,_,_,rfl,(hxw.setCell (p:=⟨g,0,none⟩) hg _).setCell (p:=⟨g,1,none⟩) hg _,h7,h8,h9,fun _=>rfl,c6,fun _=>rfl,fun h=>by
       obtain⟨g',rfl,hg',k',hne⟩:=h5 h
       have hgg:g'≠g:=fun e=>hne rfl (by rw[e])
       exact⟨g',rfl,hg',(k'.far (p:=⟨g,0,none⟩) hgg _).far (p:=⟨g,1,none⟩) hgg _,hne⟩,fun _=>⟨g,rfl,hg,(k.set 0 _).set 1 _⟩⟩
    | i+8,hop=>exact absurd hop (by simp)
 ·intro listed a w' hsz hrd hJ
  obtain⟨L⟩:=listed
  match L,hsz,hrd with
  | [q0,q1,q2,q3,q4,q5,q6,q7],hz,hrd =>
    clear hz
    obtain⟨rfl,rfl,rfl,rfl,rfl,rfl,rfl,rfl⟩:q0=true∧q1=true∧q2=true∧q3=true∧q4=true∧q5=true∧q6=true∧q7=true:=by
     exact ready8 (by decide +kernel) hrd
    obtain⟨s5,s6,s7,s8,s9,s10,rfl,hxw,h7,h8,h9,h10,c6,c7,h5,h6⟩:=hJ
    obtain rfl:=h7 rfl;obtain rfl:=h8 rfl;obtain rfl:=h9 rfl;obtain rfl:=h10 rfl
    obtain⟨g1,rfl,hg1,p1,hne⟩:=h5 rfl
    obtain⟨g2,rfl,hg2,p2⟩:=h6 rfl
    dsimp only[List.replicate] at *
    clear hne h5 h6 h7 h8 h9 h10 c6 c7 hrd CX CY HW b1 b2 e1 e2 l1 l2
    obtain⟨wN,rfl⟩:∃ W:World,W=w':=⟨_,rfl⟩
    have hxb:=hx0.trans hxw
    have e1:=p1.cell;have e2:=p2.cell;have l1:=p1.lt;have l2:=p2.lt
    have HOR:=Hy (fun b c W h=>Or_any b c [K1 - K2,Z] W h (by simp))
    rw[HF.out] at HOR
    have hwr:IntKind.i64.wrap (K1 - K2)=K1 - K2:=by rw[IntKind.wrap_i64];omega
    go_wp2_with fail
    refine wp_region_ext_tail 10 (by kernel_rfl) (by kernel_rfl) ?_
    simp only[List.take_succ_cons,List.take_zero,List.drop_succ_cons,List.drop_zero]
    repeat (first|go_big_quiet_skip|(refine wpQuiet_step (fun K hK=>?_);go_simp;first|(refine hK _ ?_;clear hK K)|(apply Exists.intro;refine⟨fun wq hwq=>?_,hK _ ?_⟩;(obtain⟨hqc,hqf⟩:=hwq.cells;have hqs:=hwq.size;(try go_simp);first|rfl|((first|rw[if_neg (by omega)]|rw[if_pos (by omega)]);(try go_simp);rfl)|((go_at_call 87;exact (CS.out _).mono (fun e w'' h=>⟨h.1,h.2 ▸ hwq⟩))));clear hK K)))
    refine wpQuiet_nil ?_
    intro wM hxM
    obtain⟨hcM,hfM⟩:=hxM.cells
    have hsM:=hxM.size
    go_wp2_with fail
    refine (HOR.out _ _ _ ?_).mono ?_
    ·intro k hk
     rw[World.cell?_alloc_at _ _ _ _ rfl]
     match k,hk with
     | 0,_=>rfl
     | 1,_=>rfl
    rintro e w' ⟨rfl,rfl⟩
    go_wp2
    go_ret
    exact⟨rfl,(hxb.trans hxM).alloc _⟩
end Go.Proofs.YtmpccllnpcbgcaaGreatDoor
