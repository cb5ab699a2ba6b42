/- Contracts of pack.chosenItems, Items, outref2.ItemsOf. -/
import Derived.Test.YtmpccllnpcbgcaaGreatDoorPk02
import Derived.Test.YtmpccllnpcbgcaaGreatDoorPk04
import Derived.Test.YtmpccllnpcbgcaaGreatDoorPk08
import Derived.Test.YtmpccllnpcbgcaaGreatDoorPk09
import Derived.Test.YtmpccllnpcbgcaaGreatDoorPk19
import Derived.Test.YtmpccllnpcbgcaaGreatDoorPk22
import Derived.Test.YtmpccllnpcbgcaaGreatDoorPk25
import Derived.Test.YtmpccllnpcbgcaaGreatDoorPk27
import Derived.Test.YtmpccllnpcbgcaaGreatDoorPk29
import Derived.Test.YtmpccllnpcbgcaaGreatDoorPk35
import Derived.Test.YtmpccllnpcbgcaaGreatDoorMono
import Derived.Test.YtmpccllnpcbgcaaGreatDoorPaL
import Derived.Test.YtmpccllnpcbgcaaGreatDoorPaA
import Derived.Test.YtmpccllnpcbgcaaGreatDoorPaB
import Derived.Test.YtmpccllnpcbgcaaGreatDoorProg
import Derived.Test.YtmpccllnpcbgcaaGreatDoorShelf
import Derived.Test.YtmpccllnpcbgcaaGreatDoorShelfG
import Derived.Lib.Split
import Derived.Lib.IndexBytes
import Derived.Lib.ItoaLen
import Derived.WalkKit
import Derived.WalkSpells
import Derived.WalkLawsBesides
import Derived.LoopTactic
import Derived.Outline
import Derived.Lib.Hide
import Derived.Lib.LaidTab
import Derived.Lib.ConvBytes
import Derived.Lib.ItoaNum
import Derived.WalkSmall
import Derived.Sort.Grow
import Derived.Deep.QuietTactic
import Derived.BigQuiet
import Derived.Lib.Replace
import Derived.Lib.SplitLaws
import Derived.Laws.AppendOwn
import Derived.Laws.OwnMore
import Derived.Maps.AppendAt
import Derived.OwnWalk
import Derived.Lib.Join
import Derived.StillTail
import Derived.Lib.AtoiAll
import Derived.Lib.Small
import Derived.Lib.Bytealg
import Derived.Deep.DeepCutAuto
import Derived.Deep.AppendLies
import Derived.Deep.RegionHeld3
import Derived.Deep.RegionLaw
import Derived.MapKept
import Derived.Laws.StructEq
import Derived.Deep.LoopGhost
import Derived.Laws.Cells
import Derived.Maps.OwnSet
import Derived.Maps.StringElems
import Derived.Sort.Walk0
import Derived.Sort.KeysCollected
import Derived.Lib.SlicesCompact
import Derived.Maps.RangeWalk
import Derived.Deep.Upon
import Derived.ArgAppend
import Derived.Laws.MakeOwn
import Derived.DeepKeys3
import Derived.OrdersHeld
import Derived.RegionTactic
import GoSem.Step
import Derived.Calls
import Derived.Shelf.SlSortCmp.WholeK
import Derived.Shelf.SlSortCmp.NoneTotal
namespace Go.Proofs.YtmpccllnpcbgcaaGreatDoor
open Go.RowKit
theorem cmpI_places:CmpI 230:=⟨enters_of Tryz.func230 (by kernel_rfl) rfl,comparePlaces_any⟩
theorem cmpI_spots:CmpI 139:=⟨enters_of Tryz.func139 (by kernel_rfl) rfl,itemsOfC_any⟩
set_option maxHeartbeats 8000000 in
set_option maxRecDepth 100000 in
theorem chosenItems_any (p:Pkg) (A:Option Addr) (c:Nat) (A2:Option Addr) (c2:Nat) (A3:Option Addr) (c3:Nat) (A4:Option Addr) (c4:Nat) (V:Nat->Bool) (g c':Nat) (w:World) (hr:RdC w A3 p.comps) (hl:p.comps.length<=2097152) (hall:(itemsL p.comps).length<=2097152) (hb:Blk w g 4 (boolsA p.comps.length V)) :
 Calls Tryz.prog 136 #[pkV p A c A2 c2 A3 c3 A4 c4,.slice (some ⟨g,0,none⟩) p.comps.length c'] w fun e w'=>∃ L A' cc,e=.returned (.slice A' L.length cc)∧L.length<=cc∧L.Perm (itemsK p.comps V p.comps.length)∧L.Pairwise (fun x y=>itCmp x y<=0)∧RdI w' A' L∧Ext w w':=by
 have HB:=Hy hb
 have hgl:=hb.lt
 clear hb
 have HR:=Hy hr
 have HMS:=Hy (fun k=>itemsK_succ (l:=p.comps) (V:=V) (k:=k))
 have HML:=Hy (show ∀ k,k<=p.comps.length->(itemsK p.comps V k).length<=2097152 from fun k hk=>Nat.le_trans (Nat.le_trans (itemsK_sub p.comps V k hk).length_le (itemsL_le p.comps k)) hall)
 clear hr hall
 obtain⟨pn,⟨v1,v2,v3,va⟩,pt,pe,pb,l,pm⟩:=p
 dsimp only[pkV] at *
 generalize pe.length=l1 at *
 generalize pb.length=l2 at *
 generalize pm.length=l4 at *
 generalize hn:l.length=n at hl HB ⊢
 have HN:=Hy hn
 clear hn
 have b0:=Blk.new w 76 #[.string pn,.int .i64 v1,.int .i64 v2,.int .i64 v3,.string va,.string pt,.slice A l1 c,.slice A2 l2 c2,.slice A3 n c3,.slice A4 l4 c4]
 have hx0:Ext w (w.alloc (.cells #[.string pn,.int .i64 v1,.int .i64 v2,.int .i64 v3,.string va,.string pt,.slice A l1 c,.slice A2 l2 c2,.slice A3 n c3,.slice A4 l4 c4] 76)):=(Ext.refl w).alloc _
 have hs0:(w.alloc (.cells #[.string pn,.int .i64 v1,.int .i64 v2,.int .i64 v3,.string va,.string pt,.slice A l1 c,.slice A2 l2 c2,.slice A3 n c3,.slice A4 l4 c4] 76)).heap.size=w.heap.size+1:=World.size_alloc _ _
 generalize hW0:w.alloc (.cells #[.string pn,.int .i64 v1,.int .i64 v2,.int .i64 v3,.string va,.string pt,.slice A l1 c,.slice A2 l2 c2,.slice A3 n c3,.slice A4 l4 c4] 76)=W0 at *
 have HW0:=Hy hW0
 have e0:=b0.cell
 clear hW0
 go_enter Tryz.func136,Tryz.ntmps136
 go_wp2
 rw[HW0.out]
 go_loopw [5,11] (fun s i wr=>∃ k:Nat,k<=n∧i=.int .i64 k∧Hid (wr.ownsRow (w.heap.size+1) 104 10 s (itemsK l V k).length ((itemsK l V k).flatMap itmC))∧Ext W0 wr) (fun s i _=>n - (intOf i).toNat)
 case atStart=>exact⟨0,Nat.zero_le _,rfl,Hy (World.ownsRow_nil _ _ _ _),Ext.refl _⟩
 case round =>
  obtain⟨k,hk,rfl,HO,hxr⟩:=hrel
  obtain⟨wo,rfl⟩:∃ wo:World,wo=wr:=⟨_,rfl⟩
  have hB:=hxr.size
  rw[hs0] at hB
  have hxw:=hx0.trans hxr
  by_cases hlt:k < n
  ·have hk1:k < l.length:=by rw[HN.out];exact hlt
   obtain⟨b,o,rfl,hX⟩:=(HR.out.ext hxw) (fun e=>by rw[e] at hk1;exact absurd hk1 (Nat.not_lt_zero _))
   obtain⟨k0,n0,x0,A5,m5,c5,A6,c6,A7,c7,A8,c8,hrow⟩:=hX k hk1
   have LD:=load_Cm hrow
   have hit:=Hy hrow.has.items
   have HT:=Hy (HMS.out k hk1)
   have hml:=HML.out k (by omega)
   have hml2:=HML.out (k+1) (by omega)
   rw[HT.out,List.length_append] at hml2
   have hcv:=((HB.out.ext hxw).cell k).trans (boolsA_get hlt)
   have hgo:=lt_of_cell hcv
   clear hX hrow
   generalize l[k]=q at *
   obtain⟨qn,qt,qd,qa,qw,qe,qi,qs⟩:=q
   dsimp only[cmV] at *
   generalize qe.length=l6 at *
   generalize h7:qi.length=l7 at *
   generalize qs.length=l8 at *
   have H7:=Hy h7
   generalize hMK:itemsK l V k=MK at *
   have b1:=Blk.new wo 82 #[.string qn,.string qt,.bool qd,.bool qa,.int .i64 k0,.string n0,.string x0,.slice A5 m5 c5,.slice A6 l6 c6,.slice A7 l7 c7,.slice A8 l8 c8]
   have hxa:Ext wo (wo.alloc (.cells #[.string qn,.string qt,.bool qd,.bool qa,.int .i64 k0,.string n0,.string x0,.slice A5 m5 c5,.slice A6 l6 c6,.slice A7 l7 c7,.slice A8 l8 c8] 82)):=(Ext.refl wo).alloc _
   cases hV:V k with
   | false =>
     rw[hV] at HT hcv
     have HT2:=Hy (show itemsK l V (k+1)=MK from by rw[HT.out];simp)
     clear HT hml2 h7
     have HO2:=Hy (show (wo.alloc (.cells #[.string qn,.string qt,.bool qd,.bool qa,.int .i64 k0,.string n0,.string x0,.slice A5 m5 c5,.slice A6 l6 c6,.slice A7 l7 c7,.slice A8 l8 c8] 82)).ownsRow (w.heap.size+1) 104 10 _ (itemsK l V (k+1)).length ((itemsK l V (k+1)).flatMap itmC) from by
      rw[HT2.out]
      exact own_ext HO.out hxa)
     go_wp2_with (refine wpList_load_at rfl _ _ rfl _ rfl _ LD ?_)
     go_roundw
     case rel=>exact⟨k+1,by omega,by go_num,HO2,hxr.trans hxa⟩
     case measure=>simp[intOf];omega
   | true =>
     rw[hV] at HT hcv hml2
     rw[if_pos rfl,h7] at hml2
     have HT2:=Hy (show itemsK l V (k+1)=MK++qi from by rw[HT.out];simp)
     clear HT h7
     have e1:=b1.cell;have l1':=b1.lt
     have hown1:=own_ext HO.out hxa
     have hB1:w.heap.size+1<=(wo.alloc (.cells #[.string qn,.string qt,.bool qd,.bool qa,.int .i64 k0,.string n0,.string x0,.slice A5 m5 c5,.slice A6 l6 c6,.slice A7 l7 c7,.slice A8 l8 c8] 82)).heap.size:=Nat.le_trans hB hxa.size
     go_wp2_with (first|(refine wpList_load_at rfl _ _ rfl _ rfl _ LD ?_)|(at_builtin;refine wpList_appI _ rfl _ _ rfl (w.heap.size+1) _ _ _ rfl hown1 A7 l7 c7 qi rfl H7.out (hit.out.ext hxa) (by omega) hB1 ?_;intro v' w' hown' hgrow))
     go_roundw
     case rel=>exact⟨k+1,by omega,by go_num,Hy (by rw[HT2.out,List.length_append,List.flatMap_append,H7.out];exact hown'),hgrow _ (hxr.trans hxa) (by rw[hs0];exact Nat.le_refl _)⟩
     case measure=>simp[intOf];omega
  ·obtain rfl:n=k:=by omega
   have CSO:=Hy (SortIO_any cmpI_places w (w.heap.size+1) _ _ (itemsK l V n) wo hxw (Nat.le_succ _) rfl HO.out (by have:=HML.out n (by rw[HN.out];exact Nat.le_refl _);omega))
   go_wp2_with fail
   refine CSO.out.mono ?_
   rintro e w5 ⟨rfl,L',A',cc,rfl,hc,hp,hs,hrd,hx5,_,_⟩
   have hlen:=hp.length_eq
   go_wp2
   go_ret
   exact⟨L',A',cc,by rw[hlen]<;>rfl,by rw[hlen];exact hc,hp,hs,hrd,hx5⟩
set_option maxHeartbeats 8000000 in
set_option maxRecDepth 100000 in
theorem ItemsOf_any (p:Pkg) (A:Option Addr) (c:Nat) (A2:Option Addr) (c2:Nat) (A3:Option Addr) (c3:Nat) (A4:Option Addr) (c4:Nat) (ns:List ByteArray) (An:Option Addr) (nn cn:Nat) (w:World) (hr:RdC w A3 p.comps) (hl:p.comps.length<=2097152) (hall:(itemsL p.comps).length<=2097152) (hnn:ns.length=nn) (hrn:RdX w An ns) (hln:nn<=2097152) :
 Calls Tryz.prog 62 #[pkV p A c A2 c2 A3 c3 A4 c4,.slice An nn cn] w fun e w'=>∃ L A' cc,e=.returned (.slice A' L.length cc)∧L.length<=cc∧L.Perm (itemsK p.comps (fun i=>memB (p.comps.getD i zeroP).name ns) p.comps.length)∧L.Pairwise (fun x y=>itCmp x y<=0)∧RdI w' A' L∧Ext w w'∧(L≠[]->∃ g,A'=some ⟨g,0,none⟩∧w.heap.size<=g):=by
 have CC:=Hy (fun x W (h:Ext w W)=>ContainsXA_any An nn cn ns x W hnn (hrn.ext h) hln)
 obtain⟨V,hV0⟩:∃ V:Nat->Bool,V=fun i=>memB (p.comps.getD i zeroP).name ns:=⟨_,rfl⟩
 rw[<-hV0]
 have HVK:=Hy (fun k (hk:k < p.comps.length)=>show memB p.comps[k].name ns=V k from by rw[hV0];dsimp only;rw[getD_cm hk])
 clear hV0 hnn hrn
 have HR:=Hy hr
 have HMS:=Hy (fun k=>itemsK_succ (l:=p.comps) (V:=V) (k:=k))
 have HML:=Hy (show ∀ k,k<=p.comps.length->(itemsK p.comps V k).length<=2097152 from fun k hk=>Nat.le_trans (Nat.le_trans (itemsK_sub p.comps V k hk).length_le (itemsL_le p.comps k)) hall)
 clear hr hall
 obtain⟨pn,⟨v1,v2,v3,va⟩,pt,pe,pb,l,pm⟩:=p
 dsimp only[pkV] at *
 generalize pe.length=l1 at *
 generalize pb.length=l2 at *
 generalize pm.length=l4 at *
 generalize hn:l.length=n at hl ⊢
 have HN:=Hy hn
 clear hn
 have b0:=Blk.new w 76 #[.string pn,.int .i64 v1,.int .i64 v2,.int .i64 v3,.string va,.string pt,.slice A l1 c,.slice A2 l2 c2,.slice A3 n c3,.slice A4 l4 c4]
 have hx0:Ext w (w.alloc (.cells #[.string pn,.int .i64 v1,.int .i64 v2,.int .i64 v3,.string va,.string pt,.slice A l1 c,.slice A2 l2 c2,.slice A3 n c3,.slice A4 l4 c4] 76)):=(Ext.refl w).alloc _
 have hs0:(w.alloc (.cells #[.string pn,.int .i64 v1,.int .i64 v2,.int .i64 v3,.string va,.string pt,.slice A l1 c,.slice A2 l2 c2,.slice A3 n c3,.slice A4 l4 c4] 76)).heap.size=w.heap.size+1:=World.size_alloc _ _
 generalize hW0:w.alloc (.cells #[.string pn,.int .i64 v1,.int .i64 v2,.int .i64 v3,.string va,.string pt,.slice A l1 c,.slice A2 l2 c2,.slice A3 n c3,.slice A4 l4 c4] 76)=W0 at *
 have HW0:=Hy hW0
 have e0:=b0.cell
 clear hW0
 go_enter Tryz.func62,Tryz.ntmps62
 go_wp2
 rw[HW0.out]
 go_loopw [5,11] (fun s i wr=>∃ k:Nat,k<=n∧i=.int .i64 k∧Hid (wr.ownsRow (w.heap.size+1) 104 10 s (itemsK l V k).length ((itemsK l V k).flatMap itmC))∧Ext W0 wr) (fun s i _=>n - (intOf i).toNat)
 case atStart=>exact⟨0,Nat.zero_le _,rfl,Hy (World.ownsRow_nil _ _ _ _),Ext.refl _⟩
 case round =>
  obtain⟨k,hk,rfl,HO,hxr⟩:=hrel
  obtain⟨wo,rfl⟩:∃ wo:World,wo=wr:=⟨_,rfl⟩
  have hB:=hxr.size
  rw[hs0] at hB
  have hxw:=hx0.trans hxr
  by_cases hlt:k < n
  ·have hk1:k < l.length:=by rw[HN.out];exact hlt
   obtain⟨b,o,rfl,hX⟩:=(HR.out.ext hxw) (fun e=>by rw[e] at hk1;exact absurd hk1 (Nat.not_lt_zero _))
   obtain⟨k0,n0,x0,A5,m5,c5,A6,c6,A7,c7,A8,c8,hrow⟩:=hX k hk1
   have LD:=load_Cm hrow
   have hit:=Hy hrow.has.items
   have HT:=Hy (HMS.out k hk1)
   have hml:=HML.out k (by omega)
   have hml2:=HML.out (k+1) (by omega)
   rw[HT.out,List.length_append] at hml2
   have HVx:=Hy (HVK.out k hk1)
   clear hX hrow
   generalize l[k]=q at *
   obtain⟨qn,qt,qd,qa,qw,qe,qi,qs⟩:=q
   dsimp only[cmV] at *
   generalize qe.length=l6 at *
   generalize h7:qi.length=l7 at *
   generalize qs.length=l8 at *
   have H7:=Hy h7
   generalize hMK:itemsK l V k=MK at *
   have b1:=Blk.new wo 82 #[.string qn,.string qt,.bool qd,.bool qa,.int .i64 k0,.string n0,.string x0,.slice A5 m5 c5,.slice A6 l6 c6,.slice A7 l7 c7,.slice A8 l8 c8]
   have hxa:Ext wo (wo.alloc (.cells #[.string qn,.string qt,.bool qd,.bool qa,.int .i64 k0,.string n0,.string x0,.slice A5 m5 c5,.slice A6 l6 c6,.slice A7 l7 c7,.slice A8 l8 c8] 82)):=(Ext.refl wo).alloc _
   cases hV:V k with
   | false =>
     rw[hV] at HT
     have HT2:=Hy (show itemsK l V (k+1)=MK from by rw[HT.out];simp)
     clear HT hml2 h7
     have CCx:=Hy (CC.out qn (wo.alloc (.cells #[.string qn,.string qt,.bool qd,.bool qa,.int .i64 k0,.string n0,.string x0,.slice A5 m5 c5,.slice A6 l6 c6,.slice A7 l7 c7,.slice A8 l8 c8] 82)) (hxw.trans hxa))
     rw[HVx.out,hV] at CCx
     generalize hW1:wo.alloc (.cells #[.string qn,.string qt,.bool qd,.bool qa,.int .i64 k0,.string n0,.string x0,.slice A5 m5 c5,.slice A6 l6 c6,.slice A7 l7 c7,.slice A8 l8 c8] 82)=W1 at *
     have HW1:=Hy hW1
     have e1:=b1.cell;have l1':=b1.lt
     clear hW1
     go_wp2_with (first|(refine wpList_load_at rfl _ _ rfl _ rfl _ LD ?_))
     rw[HW1.out]
     refine CCx.out.mono ?_
     rintro e w2 ⟨rfl,rfl⟩
     have hxb:=hxa
     have HO2:=Hy (show W1.ownsRow (w.heap.size+1) 104 10 _ (itemsK l V (k+1)).length ((itemsK l V (k+1)).flatMap itmC) from by
      rw[HT2.out]
      exact own_ext HO.out hxb)
     clear e1 l1'
     go_wp2
     go_roundw
     case rel=>exact⟨k+1,by omega,by go_num,HO2,hxr.trans hxb⟩
     case measure=>simp[intOf];omega
   | true =>
     rw[hV] at HT hml2
     rw[if_pos rfl,h7] at hml2
     have HT2:=Hy (show itemsK l V (k+1)=MK++qi from by rw[HT.out];simp)
     clear HT h7
     have CCx:=Hy (CC.out qn (wo.alloc (.cells #[.string qn,.string qt,.bool qd,.bool qa,.int .i64 k0,.string n0,.string x0,.slice A5 m5 c5,.slice A6 l6 c6,.slice A7 l7 c7,.slice A8 l8 c8] 82)) (hxw.trans hxa))
     rw[HVx.out,hV] at CCx
     generalize hW1:wo.alloc (.cells #[.string qn,.string qt,.bool qd,.bool qa,.int .i64 k0,.string n0,.string x0,.slice A5 m5 c5,.slice A6 l6 c6,.slice A7 l7 c7,.slice A8 l8 c8] 82)=W1 at *
     have HW1:=Hy hW1
     have e1:=b1.cell;have l1':=b1.lt
     clear hW1
     go_wp2_with (first|(refine wpList_load_at rfl _ _ rfl _ rfl _ LD ?_))
     rw[HW1.out]
     refine CCx.out.mono ?_
     rintro e w2 ⟨rfl,rfl⟩
     have hxb:=hxa
     have b2:=b1
     clear e1 l1'
     have e1:=b2.cell;have l1':=b2.lt
     have hown1:=own_ext HO.out hxb
     have hB1:w.heap.size+1<=W1.heap.size:=Nat.le_trans hB hxb.size
     go_wp2_with (at_builtin;refine wpList_appI _ rfl _ _ rfl (w.heap.size+1) _ _ _ rfl hown1 A7 l7 c7 qi rfl H7.out (hit.out.ext hxb) (by omega) hB1 ?_;intro v' w' hown' hgrow)
     go_roundw
     case rel=>exact⟨k+1,by omega,by go_num,Hy (by rw[HT2.out,List.length_append,List.flatMap_append,H7.out];exact hown'),hgrow _ (hxr.trans hxb) (by rw[hs0];exact Nat.le_refl _)⟩
     case measure=>simp[intOf];omega
  ·obtain rfl:n=k:=by omega
   have CSO:=Hy (SortIO_any cmpI_spots w (w.heap.size+1) _ _ (itemsK l V n) wo hxw (Nat.le_succ _) rfl HO.out (by have:=HML.out n (by rw[HN.out];exact Nat.le_refl _);omega))
   go_wp2_with fail
   refine CSO.out.mono ?_
   rintro e w5 ⟨rfl,L',A',cc,rfl,hc,hp,hs,hrd,hx5,_,hfr⟩
   have hlen:=hp.length_eq
   go_wp2
   go_ret
   exact⟨L',A',cc,by rw[hlen]<;>rfl,by rw[hlen];exact hc,hp,hs,hrd,hx5,fun h=>by
    obtain⟨g,h1,h2⟩:=hfr h
    exact⟨g,h1,by omega⟩⟩
end Go.Proofs.YtmpccllnpcbgcaaGreatDoor
