/- Contract of pack.Items. -/
import Derived.Test.YtmpccllnpcbgcaaGreatDoorPk02
import Derived.Test.YtmpccllnpcbgcaaGreatDoorPk04
import Derived.Test.YtmpccllnpcbgcaaGreatDoorPk08
import Derived.Test.YtmpccllnpcbgcaaGreatDoorPk09
import Derived.Test.YtmpccllnpcbgcaaGreatDoorPk19
import Derived.Test.YtmpccllnpcbgcaaGreatDoorPk22
import Derived.Test.YtmpccllnpcbgcaaGreatDoorPk25
import Derived.Test.YtmpccllnpcbgcaaGreatDoorPk27
import Derived.Test.YtmpccllnpcbgcaaGreatDoorPk29
import Derived.Test.YtmpccllnpcbgcaaGreatDoorPk30
import Derived.Test.YtmpccllnpcbgcaaGreatDoorPk35
import Derived.Test.YtmpccllnpcbgcaaGreatDoorMono
import Derived.Test.YtmpccllnpcbgcaaGreatDoorPaL
import Derived.Test.YtmpccllnpcbgcaaGreatDoorPaB
import Derived.Test.YtmpccllnpcbgcaaGreatDoorPaC
import Derived.Test.YtmpccllnpcbgcaaGreatDoorProg
import Derived.Test.YtmpccllnpcbgcaaGreatDoorShelf
import Derived.Test.YtmpccllnpcbgcaaGreatDoorShelfG
import Derived.Lib.Split
import Derived.Lib.IndexBytes
import Derived.Lib.ItoaLen
import Derived.WalkKit
import Derived.WalkSpells
import Derived.WalkLawsBesides
import Derived.LoopTactic
import Derived.Outline
import Derived.Lib.Hide
import Derived.Lib.LaidTab
import Derived.Lib.ConvBytes
import Derived.Lib.ItoaNum
import Derived.WalkSmall
import Derived.Sort.Grow
import Derived.Deep.QuietTactic
import Derived.BigQuiet
import Derived.Lib.Replace
import Derived.Lib.SplitLaws
import Derived.Laws.AppendOwn
import Derived.Laws.OwnMore
import Derived.Maps.AppendAt
import Derived.OwnWalk
import Derived.Lib.Join
import Derived.StillTail
import Derived.Lib.AtoiAll
import Derived.Lib.Small
import Derived.Lib.Bytealg
import Derived.Deep.DeepCutAuto
import Derived.Deep.AppendLies
import Derived.Deep.RegionHeld3
import Derived.Deep.RegionLaw
import Derived.MapKept
import Derived.Laws.StructEq
import Derived.Deep.LoopGhost
import Derived.Laws.Cells
import Derived.Maps.OwnSet
import Derived.Maps.StringElems
import Derived.Sort.Walk0
import Derived.Sort.KeysCollected
import Derived.Lib.SlicesCompact
import Derived.Maps.RangeWalk
import Derived.Deep.Upon
import Derived.ArgAppend
import Derived.Laws.MakeOwn
import Derived.DeepKeys3
import Derived.OrdersHeld
import Derived.RegionTactic
import GoSem.Step
import Derived.Calls
import Derived.Shelf.SlSortCmp.WholeK
import Derived.Shelf.SlSortCmp.NoneTotal
namespace Go.Proofs.YtmpccllnpcbgcaaGreatDoor
open Go.RowKit
def ItemsS (l:List Cmp) (V:Nat->Bool) (L:List Itm):Prop:=L.Perm (itemsK l V l.length)∧L.Pairwise fun x y=>itCmp x y<=0
theorem ItemsS.same {l:List Cmp} {V:Nat->Bool} {L L':List Itm} (hn:((itemsL l).map spotP).Nodup) (h:ItemsS l V L) (h':ItemsS l V L'):L=L' :=
 sorted_one hn (h.1.trans h'.1.symm) (fun _ hx=>(itemsK_all l V).subset (h.1.mem_iff.1 hx)) h.2 h'.2
theorem ItemsS.congr {l:List Cmp} {V U:Nat->Bool} {L:List Itm} (h:ItemsS l V L) (hv:∀ i,i < l.length->V i=U i):ItemsS l U L:=by
 unfold ItemsS
 rw[<-itemsK_congr hv _ (Nat.le_refl _)]
 exact h
set_option maxHeartbeats 16000000 in
set_option maxRecDepth 100000 in
theorem Items_any (p:Pkg) (A:Option Addr) (c:Nat) (A2:Option Addr) (c2:Nat) (A3:Option Addr) (c3:Nat) (A4:Option Addr) (c4:Nat) (ns:List ByteArray) (An:Option Addr) (nn cn:Nat) (w:World) (hg:GoodN w) (hp:PkIn w p A c A2 c2 A3 c3 A4 c4) (hs:SmallP p) (hnn:ns.length=nn) (hcn:nn<=cn) (hrn:RdX w An ns) (hln:nn<=2000000) :
 Calls Tryz.prog 59 #[pkV p A c A2 c2 A3 c3 A4 c4,.slice An nn cn] w fun e w'=>∃ L A' cc,e=.returned (.tuple #[.slice A' L.length cc,.int .i64 (f2 (pkErr p) (chErr p.comps ns))])∧L.length<=cc∧RdI w' A' L∧(¬ f2 (pkErr p) (chErr p.comps ns)=0->L=[])∧(f2 (pkErr p) (chErr p.comps ns)=0->ItemsS p.comps (clsV p.comps ns) L)∧Ext w w':=by
 have CF:=Hy (fun W (h:Ext w W)=>chosenFault_any p A c A2 c2 A3 c3 A4 c4 ns An nn cn W (hg.ext h) (hp.ext h) hs hnn hcn (hrn.ext h) (by omega))
 have CCL:=Hy (fun (h30:p.comps.length<=30) hnd W (h:Ext w W)=>closed_any p A c A2 c2 A3 c3 A4 c4 ns An nn cn W (hp.comps.ext h) h30 (fun c hc=>(hs.comps c hc).nlen) hnd hnn (hrn.ext h) hln)
 have CMK:=Hy (fun W (h:Ext w W) g hb=>chosenItems_any p A c A2 c2 A3 c3 A4 c4 (clsV p.comps ns) g p.comps.length W (hp.comps.ext h) hs.clen hs.all hb)
 have HOK:=Hy (pk_ok (p:=p))
 have HF2:=Hy (fun h=>(f2_eq0 (a:=pkErr p) (b:=chErr p.comps ns) h).1)
 clear hg hp hs hrn
 generalize f2 (pkErr p) (chErr p.comps ns)=E at *
 generalize pkErr p=PE at *
 obtain⟨pn,⟨v1,v2,v3,va⟩,pt,pe,pb,l,pm⟩:=p
 dsimp only[pkV] at *
 generalize pe.length=l1 at *
 generalize pb.length=l2 at *
 generalize pm.length=l4 at *
 generalize hn:l.length=n at CF CCL CMK HOK ⊢
 have HN:=Hy hn
 clear hn
 have b0:=Blk.new w 76 #[.string pn,.int .i64 v1,.int .i64 v2,.int .i64 v3,.string va,.string pt,.slice A l1 c,.slice A2 l2 c2,.slice A3 n c3,.slice A4 l4 c4]
 have hx0:Ext w (w.alloc (.cells #[.string pn,.int .i64 v1,.int .i64 v2,.int .i64 v3,.string va,.string pt,.slice A l1 c,.slice A2 l2 c2,.slice A3 n c3,.slice A4 l4 c4] 76)):=(Ext.refl w).alloc _
 generalize hW0:w.alloc (.cells #[.string pn,.int .i64 v1,.int .i64 v2,.int .i64 v3,.string va,.string pt,.slice A l1 c,.slice A2 l2 c2,.slice A3 n c3,.slice A4 l4 c4] 76)=W0 at *
 have HW0:=Hy hW0
 have e0:=b0.cell;have l0:=b0.lt
 clear hW0
 go_enter Tryz.func59,Tryz.ntmps59
 go_wp2_with fail
 rw[HW0.out]
 refine (CF.out _ hx0).mono ?_
 rintro e w1 ⟨rfl,hx1⟩
 have hx01:=hx0.trans hx1
 have b1:=b0.ext hx1
 clear e0 l0 b0 CF
 by_cases hH:E=0
 rotate_left
 ·have HEE:=Hy hH
  have hne:(E != 0)=true:=by rw[bne_iff_ne];exact hH
  clear hH
  go_wp2
  go_ret2
  exact⟨[],none,0,rfl,Nat.le_refl _,fun h=>absurd rfl h,fun _=>rfl,fun h=>absurd h HEE.out,hx01⟩
 have HK:=Hy (HOK.out (HF2.out hH))
 have d0:w1.cell? ⟨w.heap.size,0,none⟩=some (.string pn):=b1.cell 0
 have d1:w1.cell? ⟨w.heap.size,1,none⟩=some (.int .i64 v1):=b1.cell 1
 have d2:w1.cell? ⟨w.heap.size,2,none⟩=some (.int .i64 v2):=b1.cell 2
 have d3:w1.cell? ⟨w.heap.size,3,none⟩=some (.int .i64 v3):=b1.cell 3
 have d4:w1.cell? ⟨w.heap.size,4,none⟩=some (.string va):=b1.cell 4
 have d5:w1.cell? ⟨w.heap.size,5,none⟩=some (.string pt):=b1.cell 5
 have d6:w1.cell? ⟨w.heap.size,6,none⟩=some (.slice A l1 c):=b1.cell 6
 have d7:w1.cell? ⟨w.heap.size,7,none⟩=some (.slice A2 l2 c2):=b1.cell 7
 have d8:w1.cell? ⟨w.heap.size,8,none⟩=some (.slice A3 n c3):=b1.cell 8
 have d9:w1.cell? ⟨w.heap.size,9,none⟩=some (.slice A4 l4 c4):=b1.cell 9
 have dl:=b1.lt
 have CC:=Hy (fun W (h:Ext w1 W)=>(CCL.out HK.out.1 HK.out.2 W (hx01.trans h)).mono (fun e w' hh=>(show ∃ g,e=.returned (.slice (some ⟨g,0,none⟩) n n)∧Hid (Blk w' g 4 (boolsA n (clsV l ns)))∧Ext W w'∧Ext w1 w' from by
  obtain⟨g,h1,h2,h3⟩:=hh
  exact⟨g,h1,h2,h3,h.trans h3⟩)))
 have CM:=Hy (fun W (h:Ext w1 W) g (hb:Hid (Blk W g 4 (boolsA n (clsV l ns))))=>(CMK.out W (hx01.trans h) g hb.out).mono (fun e w' hh=>(show ∃ L A' cc,e=.returned (.slice A' L.length cc)∧Hid (L.length<=cc∧RdI w' A' L∧ItemsS l (clsV l ns) L)∧Ext W w'∧Ext w1 w' from by
  obtain⟨L,A',cc,h1,h2,h3,h4,h5,h6⟩:=hh
  rw[<-HN.out] at h3
  exact⟨L,A',cc,h1,⟨h2,h5,h3,h4⟩,h6,h.trans h6⟩)))
 have HX01:=Hy hx01
 clear HOK HF2 hx01 hx0 hx1 b1 CCL CMK
 subst hH
 go_wp2
 go_region_held3 (fun w'=>w'.cell? ⟨w.heap.size,0,none⟩=some (.string pn)∧w'.cell? ⟨w.heap.size,1,none⟩=some (.int .i64 v1)∧w'.cell? ⟨w.heap.size,2,none⟩=some (.int .i64 v2)∧w'.cell? ⟨w.heap.size,3,none⟩=some (.int .i64 v3)∧w'.cell? ⟨w.heap.size,4,none⟩=some (.string va)∧w'.cell? ⟨w.heap.size,5,none⟩=some (.string pt)∧w'.cell? ⟨w.heap.size,6,none⟩=some (.slice A l1 c)∧w'.cell? ⟨w.heap.size,7,none⟩=some (.slice A2 l2 c2)∧w'.cell? ⟨w.heap.size,8,none⟩=some (.slice A3 n c3)∧w'.cell? ⟨w.heap.size,9,none⟩=some (.slice A4 l4 c4)) (first|(go_keep;done)|((try go_split_ands);(try dsimp only);(repeat' apply And.intro);all_goals (first|(go_keep;done)|(with_reducible exact hxh.cell (by assumption))|(refine hxh.cell ?_;go_simp))))
  (first
  | (go_at_call 127;with_reducible refine (CC.out _ Ext.au).mono ?_;rintro e w' ⟨g,rfl,hbk,hxh,hab⟩)
  | (go_at_call 136;with_reducible refine (CM.out _ hab _ hbk).mono ?_;rintro e w' ⟨L,A',cc,rfl,hrd,hxh,hac⟩))
 all_goals
  clear d0 d1 d2 d3 d4 d5 d6 d7 d8 d9 dl
  go_wp2_with fail
  go_ret2
  first|exact⟨L,A',cc,rfl,hrd.out.1,hrd.out.2.1,hrd.out.2.2,HX01.out.trans hac⟩|exact⟨L,A',cc,rfl,hrd.out.1,hrd.out.2.1,fun h=>absurd rfl h,fun _=>hrd.out.2.2,HX01.out.trans hac⟩
end Go.Proofs.YtmpccllnpcbgcaaGreatDoor
