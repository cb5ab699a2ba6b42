/- The clashes of packages by maps of places: outref2.ClashesOf. -/
import Derived.Test.YtmpccllnpcbgcaaGreatDoorPk02
import Derived.Test.YtmpccllnpcbgcaaGreatDoorPk04
import Derived.Test.YtmpccllnpcbgcaaGreatDoorPk08
import Derived.Test.YtmpccllnpcbgcaaGreatDoorPk09
import Derived.Test.YtmpccllnpcbgcaaGreatDoorPk19
import Derived.Test.YtmpccllnpcbgcaaGreatDoorPk22
import Derived.Test.YtmpccllnpcbgcaaGreatDoorPk25
import Derived.Test.YtmpccllnpcbgcaaGreatDoorPk27
import Derived.Test.YtmpccllnpcbgcaaGreatDoorPk29
import Derived.Test.YtmpccllnpcbgcaaGreatDoorPk30
import Derived.Test.YtmpccllnpcbgcaaGreatDoorPk34
import Derived.Test.YtmpccllnpcbgcaaGreatDoorPk36
import Derived.Test.YtmpccllnpcbgcaaGreatDoorMono
import Derived.Test.YtmpccllnpcbgcaaGreatDoorPaL
import Derived.Test.YtmpccllnpcbgcaaGreatDoorPaB
import Derived.Test.YtmpccllnpcbgcaaGreatDoorPaC
import Derived.Test.YtmpccllnpcbgcaaGreatDoorPaD
import Derived.Test.YtmpccllnpcbgcaaGreatDoorClA
import Derived.Test.YtmpccllnpcbgcaaGreatDoorClB
import Derived.Test.YtmpccllnpcbgcaaGreatDoorClC
import Derived.Test.YtmpccllnpcbgcaaGreatDoorProg
import Derived.Test.YtmpccllnpcbgcaaGreatDoorShelf
import Derived.Test.YtmpccllnpcbgcaaGreatDoorShelfG
import Derived.Lib.Split
import Derived.Lib.IndexBytes
import Derived.Lib.ItoaLen
import Derived.WalkKit
import Derived.WalkSpells
import Derived.WalkLawsBesides
import Derived.LoopTactic
import Derived.Outline
import Derived.Lib.Hide
import Derived.Lib.LaidTab
import Derived.Lib.ConvBytes
import Derived.Lib.ItoaNum
import Derived.WalkSmall
import Derived.Sort.Grow
import Derived.Deep.QuietTactic
import Derived.BigQuiet
import Derived.Lib.Replace
import Derived.Lib.SplitLaws
import Derived.Laws.AppendOwn
import Derived.Laws.OwnMore
import Derived.Maps.AppendAt
import Derived.OwnWalk
import Derived.Lib.Join
import Derived.StillTail
import Derived.Lib.AtoiAll
import Derived.Lib.Small
import Derived.Lib.Bytealg
import Derived.Deep.DeepCutAuto
import Derived.Deep.AppendLies
import Derived.Deep.RegionHeld3
import Derived.Deep.RegionLaw
import Derived.MapKept
import Derived.Laws.StructEq
import Derived.Deep.LoopGhost
import Derived.Laws.Cells
import Derived.Maps.OwnSet
import Derived.Maps.StringElems
import Derived.Sort.Walk0
import Derived.Sort.KeysCollected
import Derived.Lib.SlicesCompact
import Derived.Maps.RangeWalk
import Derived.Deep.Upon
import Derived.ArgAppend
import Derived.Laws.MakeOwn
import Derived.DeepKeys3
import Derived.OrdersHeld
import Derived.RegionTactic
import GoSem.Step
import Derived.Calls
import Derived.Shelf.SlSortCmp.WholeK
import Derived.Shelf.SlSortCmp.NoneTotal
namespace Go.Proofs.YtmpccllnpcbgcaaGreatDoor
open Go.RowKit
open Go.Maps (Keyed has)
def lookI (L:List Itm):Int × ByteArray->Option Value:=fun s=>(L.find? fun y=>decide (spotP y=s)).map itmV
theorem spotE_P (x y:Itm):spotE x y=decide (spotP y=spotP x):=by
 unfold spotE spotP
 rw[Bool.eq_iff_iff,Bool.and_eq_true,decide_eq_true_eq,decide_eq_true_eq,decide_eq_true_eq,Prod.mk.injEq]
 exact⟨fun h=>⟨h.1.symm,h.2.symm⟩,fun h=>⟨h.1.symm,h.2.symm⟩⟩
theorem lookI_find (L:List Itm) (x:Itm):lookI L (spotP x)=(findI L x).map itmV:=by
 unfold lookI findI
 congr 2
 funext y
 rw[spotE_P]
theorem lookI_add {L:List Itm} (hn:(L.map spotP).Nodup) {k:Nat} (hk:k < L.length):setK (lookI (L.take k)) (spotP L[k]) (itmV L[k])=lookI (L.take (k+1)):=by
 funext s
 have e1:L.take (k+1)=L.take k++[L[k]]:=List.take_succ_eq_append_getElem hk
 by_cases e:s=spotP L[k]
 ·subst e
  rw[setK_same]
  unfold lookI
  have h0:(L.take k).find? (fun y=>decide (spotP y=spotP L[k]))=none:=by
   rw[List.find?_eq_none]
   intro y hy h2
   rw[decide_eq_true_eq] at h2
   obtain⟨j,hj,rfl⟩:=List.mem_iff_getElem.1 hy
   rw[List.getElem_take] at h2
   rw[List.length_take] at hj
   have h4:=List.pairwise_iff_getElem.1 hn j k (by rw[List.length_map];omega) (by rw[List.length_map];omega) (by omega)
   rw[List.getElem_map,List.getElem_map] at h4
   exact h4 h2
  rw[e1,List.find?_append,h0]
  simp
 ·rw[setK_ne e]
  unfold lookI
  rw[e1,List.find?_append]
  cases (L.take k).find? (fun y=>decide (spotP y=s)) with
  | some y=>rfl
  | none =>
    have:decide (spotP L[k]=s)=false:=decide_eq_false fun h=>e h.symm
    simp[this]
theorem lookI_zero:lookI []=fun _=>none:=rfl
theorem itm_zero (w:World):(zeroValue 104).run Tryz.prog w=.ok (itmV zeroI) w:=by
 unfold itmV zeroI
 go_simp
theorem loadB_Sp {w:World} {g:Nat} {cs:Array Value} (h:Blk w g 214 cs) (hl:cs.size=2):(loadVar 214 ⟨g,0,none⟩).run Tryz.prog w=.ok (.agg cs) w :=
 load_cellsT (z:=2) (by kernel_rfl) (by kernel_rfl) cs.toList (by simpa using hl) fun j v hj=>by
  rw[Nat.zero_add,h.cell j]
  simpa using hj
theorem RdI.farC {C:Nat->Prop} {w w':World} {A:Option Addr} {L:List Itm} (h:RdI w A L) (hx:ExtC C w w') (hC:∀ g o,A=some ⟨g,o,none⟩->¬ C g):RdI w' A L:=fun hn=>by
 obtain⟨b,o,e,hX⟩:=h hn
 have hb:=hC b o e
 refine⟨b,o,e,fun q hq=>?_⟩
 have r:=hX q hq
 exact⟨hx.cell hb r.r0,hx.cell hb r.r1,hx.cell hb r.r2,hx.cell hb r.r3,hx.cell hb r.r4,hx.cell hb r.r5,hx.cell hb r.r6,hx.cell hb r.r7,hx.cell hb r.r8,hx.cell hb r.r9⟩
theorem grown_extC {w w':World} {b:Nat} (hg:w.grownBy w' (some b)):ExtC (·=b) w w':=⟨hg.os,hg.tape,hg.output,hg.size,fun k hk hne=>hg.block k hk (fun e=>hne (by injection e))⟩
theorem grown_extO {w w':World} {r:Option Nat} (hg:w.grownBy w' r):ExtC (fun k=>some k=r) w w':=⟨hg.os,hg.tape,hg.output,hg.size,fun k hk hne=>hg.block k hk hne⟩
theorem perm_small {l:List Cmp} {V:Nat->Bool} {L:List Itm} (h:L.Perm (itemsK l V l.length)) (hs:∀ c∈l,SmallCm c):∀ x∈L,SmallI x:=fun x hx=>by
 have h1:=(itemsK_all l V).subset (h.mem_iff.1 hx)
 obtain⟨c,hc,h2⟩:=List.mem_flatMap.1 h1
 exact (hs c hc).items x h2
def HeldR (s:Value) (bm:Nat) (A:Option Addr) (w:World):Prop:=some bm≠s.ownBlock∧bm < w.heap.size∧∀ g o,A=some ⟨g,o,none⟩->some g≠s.ownBlock∧g < w.heap.size
theorem HeldR.ext {s:Value} {bm:Nat} {A:Option Addr} {w w':World} (h:HeldR s bm A w) (hz:w.heap.size<=w'.heap.size):HeldR s bm A w' :=
 ⟨h.1,Nat.lt_of_lt_of_le h.2.1 hz,fun g o e=>⟨(h.2.2 g o e).1,Nat.lt_of_lt_of_le (h.2.2 g o e).2 hz⟩⟩
theorem HeldR.app {s s':Value} {bm:Nat} {A:Option Addr} {w w':World} {H:Nat} (h:HeldR s bm A w) (hz:w.heap.size<=w'.heap.size) (hH:w.heap.size<=H) (hat:s'.ownBlock=s.ownBlock∨s'.ownBlock=some H):HeldR s' bm A w':=by
 refine⟨?_,Nat.lt_of_lt_of_le h.2.1 hz,fun g o e=>⟨?_,Nat.lt_of_lt_of_le (h.2.2 g o e).2 hz⟩⟩
 ·rcases hat with e|e
  ·rw[e];exact h.1
  ·rw[e];intro e2;injection e2 with e2;have:=h.2.1;omega
 ·rcases hat with e2|e2
  ·rw[e2];exact (h.2.2 g o e).1
  ·rw[e2];intro e3;injection e3 with e3;have:=(h.2.2 g o e).2;omega
set_option maxHeartbeats 64000000 in
set_option maxRecDepth 100000 in
theorem ClashesOf_any (I:Nat->List Itm) (l:List Pkg) (cl:List (List ByteArray)) (A:Option Addr) (n c:Nat) (B:Option Addr) (d:Nat) (w:World) (hn:l.length=n) (hr:RdK w A l) (hs:∀ p∈l,SmallP p) (h100:n<=100) (hm:cl.length=n) (hrc:RdXX w B cl) (hcl:∀ x∈cl,x.length<=2000000)
 (hI:∀ i,i < n->∀ L:List Itm,L.Perm (itemsK (l.getD i zeroPk).comps (fun t=>memB ((l.getD i zeroPk).comps.getD t zeroP).name (cl.getD i [])) (l.getD i zeroPk).comps.length)->L.Pairwise (fun x y=>itCmp x y<=0)->L=I i) (hIl:∀ i,(I i).length<=2097152) (hnd:∀ i,i < n->((I i).map spotP).Nodup) :
 Calls Tryz.prog 69 #[.slice A n c,.slice B n d] w fun e w'=>∃ (A':Option Addr) (c':Nat),e=.returned (.slice A' (allX I n n).length c')∧RdCl w' A' (allX I n n)∧Ext w w':=by
 have HN:=Hy hn
 have HM:=Hy hm
 have HR:=Hy hr
 have HRC:=Hy hrc
 have HSM:=Hy hs
 have HCL:=Hy hcl
 have HI:=Hy hI
 have HIL:=Hy hIl
 have HND:=Hy hnd
 clear hn hm hr hrc hs hcl hI hIl hnd
 go_enter Tryz.func69,Tryz.ntmps69
 go_wp2
 go_loopw [5,18] (fun s ix wr=>∃ i:Nat,i<=n∧ix=.int .i64 i∧Hid (wr.ownsRow w.heap.size 120 4 s (allX I n i).length ((allX I n i).flatMap claC))∧Ext w wr) (fun s ix _=>n - (intOf ix).toNat)
 case atStart=>exact⟨0,Nat.zero_le _,rfl,Hy (World.ownsRow_nil _ _ _ _),Ext.refl _⟩
 case round =>
  obtain⟨i,hi,rfl,HO,hxi⟩:=hrel
  obtain⟨wi,rfl⟩:∃ wi:World,wi=wr:=⟨_,rfl⟩
  by_cases hlt:i < n
  rotate_left
  ·obtain rfl:n=i:=by omega
   obtain⟨A',c',rfl,hc',hrd⟩:=rdcl_own HO.out rfl
   have HRD:=Hy hrd
   clear hrd
   go_wp2
   go_ret
   exact⟨A',c',rfl,HRD.out,hxi⟩
  have hii:IntKind.i64.wrap ((i:Int)+1)=(i:Int)+1:=by rw[IntKind.wrap_i64];omega
  go_wp2
  go_loopw [5,7] (fun s kx ws=>∃ k:Nat,i+1<=k∧k<=n∧kx=.int .i64 k∧Hid (ws.ownsRow w.heap.size 120 4 s (allX I n i++rowX I i k).length ((allX I n i++rowX I i k).flatMap claC))∧Ext w ws) (fun s kx _=>n - (intOf kx).toNat)
  case atStart=>exact⟨i+1,Nat.le_refl _,by omega,by go_num,Hy (by rw[rowX_none I i (i+1) (Nat.le_refl _),List.append_nil];exact HO.out),hxi⟩
  case round =>
   clear HO hxi hii
   obtain⟨k,hik,hk,rfl,HO,hxk⟩:=hrel
   obtain⟨wk,rfl⟩:∃ wk:World,wk=wr:=⟨_,rfl⟩
   by_cases hlk:k < n
   rotate_left
   ·obtain rfl:n=k:=by omega
    have HOF:=Hy (show wk.ownsRow w.heap.size 120 4 _ (allX I n (i+1)).length ((allX I n (i+1)).flatMap claC) from by rw[allX_succ];exact HO.out)
    go_wp2
    go_roundw
    case rel=>exact⟨i+1,by omega,by go_num,HOF,hxk⟩
    case measure=>simp[intOf];omega
   have hi1:i < l.length:=by rw[HN.out];exact hlt
   have hk1:k < l.length:=by rw[HN.out];exact hlk
   have hi2:i < cl.length:=by rw[HM.out];exact hlt
   have hk2:k < cl.length:=by rw[HM.out];exact hlk
   obtain⟨b,o,rfl,hX⟩:=HR.out (fun e=>by rw[e] at hk1;exact absurd hk1 (Nat.not_lt_zero _))
   obtain⟨b',o',rfl,hY⟩:=HRC.out (fun e=>by rw[e] at hk2;exact absurd hk2 (Nat.not_lt_zero _))
   obtain⟨A1,a1,A2,a2,A3,a3,A4,a4,rowI⟩:=hX i hi1
   obtain⟨D1,d1,D2,d2,D3,d3,D4,d4,rowK⟩:=hX k hk1
   obtain⟨Ci,ci,celI,hcci,hrI⟩:=hY i hi2
   obtain⟨Ck,ck,celK,hcck,hrK⟩:=hY k hk2
   have hcli:=HCL.out _ (List.getElem_mem hi2)
   have hclk:=HCL.out _ (List.getElem_mem hk2)
   have HSI:=Hy (HSM.out _ (List.getElem_mem hi1))
   have HSK:=Hy (HSM.out _ (List.getElem_mem hk1))
   have CI0:=Hy (fun W (h:Ext w W)=>ItemsOf_any l[i] A1 a1 A2 a2 A3 a3 A4 a4 cl[i] Ci cl[i].length ci W (rowI.has.comps.ext h) HSI.out.clen HSI.out.all rfl (hrI.ext h) (by omega))
   have CK0:=Hy (fun W (h:Ext w W)=>ItemsOf_any l[k] D1 d1 D2 d2 D3 d3 D4 d4 cl[k] Ck cl[k].length ck W (rowK.has.comps.ext h) HSK.out.clen HSK.out.all rfl (hrK.ext h) (by omega))
   have HII:=Hy (HI.out i hlt)
   have HIK:=Hy (HI.out k hlk)
   rw[getD_pk hi1,getD_ch hi2] at HII
   rw[getD_pk hk1,getD_ch hk2] at HIK
   have HLS:=Hy (fun (x:Itm) L (h:L.Perm (itemsK l[k].comps (fun t=>memB (l[k].comps.getD t zeroP).name cl[k]) l[k].comps.length)) (hx:x∈L)=>perm_small h HSK.out.comps x hx)
   have HLI:=Hy (fun (x:Itm) L (h:L.Perm (itemsK l[i].comps (fun t=>memB (l[i].comps.getD t zeroP).name cl[i]) l[i].comps.length)) (hx:x∈L)=>perm_small h HSI.out.comps x hx)
   have CI:=Hy (fun W (h:Ext w W)=>(CI0.out W h).mono fun e w' hh=>(show ∃ A' cc,e=.returned (.slice A' (I i).length cc)∧Hid ((I i).length<=cc∧RdI w' A' (I i)∧(∀ x∈I i,SmallI x)∧(I i≠[]->∃ g,A'=some ⟨g,0,none⟩∧W.heap.size<=g))∧Ext W w'∧Ext w w' from by
    obtain⟨L,A',cc,h1,h2,h3,h4,h5,h6,h7⟩:=hh
    have hsm:=fun x hx=>HLI.out x L h3 hx
    obtain rfl:=HII.out L h3 h4
    exact⟨A',cc,h1,⟨h2,h5,hsm,h7⟩,h6,h.trans h6⟩))
   have CK:=Hy (fun W (h:Ext w W)=>(CK0.out W h).mono fun e w' hh=>(show ∃ A' cc,e=.returned (.slice A' (I k).length cc)∧Hid ((I k).length<=cc∧RdI w' A' (I k)∧(∀ x∈I k,SmallI x)∧(I k≠[]->∃ g,A'=some ⟨g,0,none⟩∧W.heap.size<=g))∧Ext W w'∧Ext w w' from by
    obtain⟨L,A',cc,h1,h2,h3,h4,h5,h6,h7⟩:=hh
    have hsm:=fun x hx=>HLS.out x L h3 hx
    obtain rfl:=HIK.out L h3 h4
    exact⟨A',cc,h1,⟨h2,h5,hsm,h7⟩,h6,h.trans h6⟩))
   have HNDK:=Hy (HND.out k hlk)
   have hli:=HIL.out i
   have hlkk:=HIL.out k
   have HXR:=Hy (rowX_succ I (show i < k by omega))
   have HBN:=Hy (show (allX I n i++rowX I i k).length+(clB i k (I i) (I k)).length<=100000000000 from by
    have hb1:=allX_len HIL.out n i
    have hb2:=rowX_len HIL.out i k
    have hb3:=Nat.le_trans (clB_len i k (I i) (I k)) (HIL.out i)
    have hnn:i * (n * 2097152)<=100 * (100 * 2097152):=Nat.mul_le_mul (by omega) (Nat.mul_le_mul (by omega) (Nat.le_refl _))
    have hkk:k * 2097152<=100 * 2097152:=Nat.mul_le_mul (by omega) (Nat.le_refl _)
    rw[List.length_append];omega)
   have RI:=Hy rowI
   have RK:=Hy rowK
   clear hX hY rowI rowK hrI hrK hcci hcck CI0 CK0 HII HIK HLS HLI HSI HSK HSM HCL HI HND HR HRC
   generalize l[i]=pi at *
   generalize l[k]=pk at *
   generalize cl[i].length=ni at *
   generalize cl[k].length=nk at *
   dsimp only[pkV] at CI CK
   have s0:(wk.alloc (.map #[] 0)).heap.size=wk.heap.size+1:=World.size_alloc _ _
   have hm0:=HMap.made (κ:=keyPair pair_spot) wk
   have hxm:Ext wk (wk.alloc (.map #[] 0)):=(Ext.refl wk).alloc _
   generalize hW1:wk.alloc (.map #[] 0)=w1 at *
   have HW1:=Hy hW1
   have HM0:=Hy (hm0.congr (g:=lookI ((I k).take 0)) (fun _=>rfl))
   clear hW1 hm0
   have hxw1:=hxk.trans hxm
   obtain⟨r0,r1,r2,r3,r4,r5,r6,r7,r8,r9,_⟩:=RK.out.ext hxw1
   have rc:=hxw1.cell celK
   have rl:=lt_of_cell r0;have rcl:=lt_of_cell rc
   have hmm:=@run_makeMap Tryz.prog
   go_upto_region 9 with (first|(rw[HW1.out]))
   try rw[HW1.out]
   clear hmm
   go_region_held3 (fun w'=>w'.cell? ⟨b,o+k * 10,none⟩=some (.string pk.name)∧w'.cell? ⟨b,o+k * 10+1,none⟩=some (.int .i64 pk.vv.a1)∧w'.cell? ⟨b,o+k * 10+2,none⟩=some (.int .i64 pk.vv.a2)∧w'.cell? ⟨b,o+k * 10+3,none⟩=some (.int .i64 pk.vv.a3)∧w'.cell? ⟨b,o+k * 10+4,none⟩=some (.string pk.vv.a)∧w'.cell? ⟨b,o+k * 10+5,none⟩=some (.string pk.title)∧w'.cell? ⟨b,o+k * 10+6,none⟩=some (.slice D1 pk.needs.length d1)∧w'.cell? ⟨b,o+k * 10+7,none⟩=some (.slice D2 pk.bars.length d2)∧w'.cell? ⟨b,o+k * 10+8,none⟩=some (.slice D3 pk.comps.length d3)∧w'.cell? ⟨b,o+k * 10+9,none⟩=some (.slice D4 pk.moves.length d4)∧w'.cell? ⟨b',o'+k,none⟩=some (.slice Ck nk ck)) (first|(go_keep;done)|((try go_split_ands);(try dsimp only);(repeat' apply And.intro);all_goals (first|(go_keep;done)|(with_reducible exact hxh.cell (by assumption))|(refine hxh.cell ?_;go_simp))))
    (first
    | (go_at_call 62;with_reducible refine (CK.out _ (hxw1.trans Ext.au)).mono ?_;rintro e w' ⟨Ak,cck,rfl,hits,hxh,hab⟩))
   all_goals
    clear r0 r1 r2 r3 r4 r5 r6 r7 r8 r9 rc rl rcl
    obtain⟨w2,rfl⟩:∃ W:World,W=w':=⟨_,rfl⟩
    have hx12:Ext w1 w2:=Ext.trans Ext.au hxh
    have HM2:=Hy (HM0.out.ext hx12)
    have HK2:=Hy hits.out.2.1
    have HSMK:=Hy hits.out.2.2.1
    have HFK:=Hy (show ∀ g o,Ak=some ⟨g,o,none⟩->I k≠[]->¬ g=wk.heap.size from fun g o e hne=>by
     obtain⟨g',e',h⟩:=hits.out.2.2.2 hne
     rw[e'] at e
     injection e with e
     injection e with e
     simp only[World.size_drew] at h
     omega)
    have hcck:=hits.out.1
    have hwk2:=hxm.trans hx12
    clear hits hxh HM0
    go_wp2
    go_loopw [40] (fun ix wr=>∃ t:Nat,t<=(I k).length∧ix=.int .i64 t∧Hid (HMap (keyPair pair_spot) wr wk.heap.size t (lookI ((I k).take t)))∧Hid (RdI wr Ak (I k))∧Ext wk wr) (fun ix _=>(I k).length - (intOf ix).toNat)
    case atStart=>exact⟨0,Nat.zero_le _,rfl,Hy (HM2.out.mono (Nat.zero_le _)),HK2,hwk2⟩
    case round =>
     clear HM2 HK2 hwk2 hx12
     obtain⟨t,ht,rfl,HMt,HKt,hxt⟩:=hrel
     obtain⟨wt,rfl⟩:∃ wt:World,wt=wr:=⟨_,rfl⟩
     by_cases hltt:t < (I k).length
     ·obtain⟨g,go,rfl,hX⟩:=HKt.out (fun e=>by rw[e] at hltt;exact absurd hltt (Nat.not_lt_zero _))
      have LD:=load_It (hX t hltt)
      have HADD:=Hy (lookI_add HNDK.out hltt)
      have HOK:=Hy (okP_spot (HSMK.out _ (List.getElem_mem hltt)))
      have HGN:=Hy (HFK.out g go rfl (fun e=>by rw[e] at hltt;exact absurd hltt (Nat.not_lt_zero _)))
      clear hX
      generalize (I k)[t]=y at *
      have CP:=Hy (fun W=>SpotOf_any y W)
      dsimp only[itmV] at LD CP
      have b1:=Blk.new wt 104 #[.int .i64 y.kind,.string y.path,.string y.data,.bool y.runs,.string y.key,.string y.val,.string y.sn,.string y.sp,.bool y.auto,.bool y.on]
      have hxa:Ext wt (wt.alloc (.cells #[.int .i64 y.kind,.string y.path,.string y.data,.bool y.runs,.string y.key,.string y.val,.string y.sn,.string y.sp,.bool y.auto,.bool y.on] 104)):=(Ext.refl wt).alloc _
      generalize hW3:wt.alloc (.cells #[.int .i64 y.kind,.string y.path,.string y.data,.bool y.runs,.string y.key,.string y.val,.string y.sn,.string y.sp,.bool y.auto,.bool y.on] 104)=w3 at *
      have HW3:=Hy hW3
      have e1:=b1.cell;have l1:=b1.lt
      clear hW3
      go_wp2_with (first|(rw[HW3.out])|(refine wpList_load_at rfl _ _ rfl _ rfl _ LD ?_))
      try rw[HW3.out]
      refine wp_region_ext_tail 4 (by kernel_rfl) (by kernel_rfl) ?_
      simp only[List.take_succ_cons,List.take_zero,List.drop_succ_cons,List.drop_zero]
      repeat (first|go_big_quiet_skip|(refine wpQuiet_step (fun K hK=>?_);go_simp;first|(refine hK _ ?_;clear hK K)|(apply Exists.intro;refine⟨fun wq hwq=>?_,hK _ ?_⟩;(obtain⟨hqc,hqf⟩:=hwq.cells;have hqs:=hwq.size;(try go_simp);first|rfl|((first|rw[if_neg (by omega)]|rw[if_pos (by omega)]);(try go_simp);rfl)|((go_at_call 140;exact (CP.out _).mono (fun e w'' h=>⟨h.1,hwq.trans h.2⟩))));clear hK K)))
      refine wpQuiet_nil ?_
      intro wN hxN
      obtain⟨hcN,hfN⟩:=hxN.cells
      have hsN:=hxN.size
      have hxtn:=hxa.trans hxN
      obtain⟨w4,hr4,hm4,hg4⟩:=(HMt.out.ext hxtn).upd (m:=220) Tryz.underlying220 HOK.out (itmV y) (by omega)
      rw[HADD.out] at hm4
      have hr4:(Instr.mapUpdate 220 (.map (some wk.heap.size)) (.agg #[.int .i64 (spotK y),.string (spotN y)]) (.agg #[.int .i64 y.kind,.string y.path,.string y.data,.bool y.runs,.string y.key,.string y.val,.string y.sn,.string y.sp,.bool y.auto,.bool y.on])).run Tryz.prog wN=.ok () w4:=hr4
      have HM4:=Hy hm4
      have HK4:=Hy ((HKt.out.ext hxtn).farC (grown_extC hg4) fun g' o e=>by injection e with e;injection e with e _;rw[<-e];exact HGN.out)
      have hx4:Ext wk w4:=(hxt.trans hxtn).row hg4 (Nat.le_refl _)
      clear hm4 hg4 e1 l1 LD hcN hfN hsN CP
      go_wp2
      go_roundw
      case rel=>exact⟨t+1,by omega,by go_num,HM4,HK4,hx4⟩
      case measure=>simp[intOf];omega
     ·have HMF:=Hy (show HMap (keyPair pair_spot) wt wk.heap.size (I k).length (lookI (I k)) from by
       have e:t=(I k).length:=by omega
       subst e
       have h:=HMt.out
       rwa [List.take_length] at h)
      clear HMt HKt HFK HSMK HNDK
      have hxwt:=hxk.trans hxt
      have HOT:=Hy (own_ext HO.out hxt)
      have hoB:=fun g h=>(HO.out.lt g h).2
      have hsk:=hxt.size
      obtain⟨r0,r1,r2,r3,r4,r5,r6,r7,r8,r9,_⟩:=RI.out.ext hxwt
      have rc:=hxwt.cell celI
      have rl:=lt_of_cell r0;have rcl:=lt_of_cell rc
      go_upto_region 14 with fail
      go_region_held3 (fun w'=>w'.cell? ⟨b,o+i * 10,none⟩=some (.string pi.name)∧w'.cell? ⟨b,o+i * 10+1,none⟩=some (.int .i64 pi.vv.a1)∧w'.cell? ⟨b,o+i * 10+2,none⟩=some (.int .i64 pi.vv.a2)∧w'.cell? ⟨b,o+i * 10+3,none⟩=some (.int .i64 pi.vv.a3)∧w'.cell? ⟨b,o+i * 10+4,none⟩=some (.string pi.vv.a)∧w'.cell? ⟨b,o+i * 10+5,none⟩=some (.string pi.title)∧w'.cell? ⟨b,o+i * 10+6,none⟩=some (.slice A1 pi.needs.length a1)∧w'.cell? ⟨b,o+i * 10+7,none⟩=some (.slice A2 pi.bars.length a2)∧w'.cell? ⟨b,o+i * 10+8,none⟩=some (.slice A3 pi.comps.length a3)∧w'.cell? ⟨b,o+i * 10+9,none⟩=some (.slice A4 pi.moves.length a4)∧w'.cell? ⟨b',o'+i,none⟩=some (.slice Ci ni ci)) (first|(go_keep;done)|((try go_split_ands);(try dsimp only);(repeat' apply And.intro);all_goals (first|(go_keep;done)|(with_reducible exact hxh.cell (by assumption))|(refine hxh.cell ?_;go_simp))))
       (first
       | (go_at_call 62;with_reducible refine (CI.out _ (hxwt.trans Ext.au)).mono ?_;rintro e w' ⟨Ai,cci,rfl,hits,hxh,hab⟩))
      all_goals
       clear r0 r1 r2 r3 r4 r5 r6 r7 r8 r9 rc rl rcl
       obtain⟨w5,rfl⟩:∃ W:World,W=w':=⟨_,rfl⟩
       have hx25:Ext wt w5:=Ext.trans Ext.au hxh
       have HM5:=Hy (HMF.out.ext hx25)
       have HI5:=Hy hits.out.2.1
       have HSMI:=Hy hits.out.2.2.1
       have HO5:=Hy (own_ext HOT.out hx25)
       have hcci:=hits.out.1
       have HHR:=Hy (show I i≠[]->HeldR _ wk.heap.size Ai w5 from fun hne=>by
        obtain⟨g',e',h⟩:=hits.out.2.2.2 hne
        simp only[World.size_drew] at h
        have hz:=hx25.size
        refine⟨fun e=>by have:=hoB _ e.symm;omega,HM5.out.lt,fun g o e=>?_⟩
        rw[e'] at e
        injection e with e
        injection e with e
        have hg5:g' < w5.heap.size:=by
         obtain⟨b5,o5,e5,hX5⟩:=hits.out.2.1 hne
         rw[e'] at e5
         injection e5 with e5
         injection e5 with e5
         rw[e5]
         exact lt_of_cell (hX5 0 (List.length_pos_iff.2 hne)).r0
        rw[<-e]
        exact⟨fun e2=>by have:=hoB _ e2.symm;omega,hg5⟩)
       have hxw5:=hxwt.trans hx25
       clear hits hxh HOT HMF hoB hx25
       obtain⟨G,hG⟩:∃ G:Nat->List Cla,G=fun u=>(allX I n i++rowX I i k)++clB i k ((I i).take u) (I k):=⟨_,rfl⟩
       have HGS:=Hy (fun u (hu:u < (I i).length)=>show G (u+1)=G u++clX i k (I i)[u] (findI (I k) (I i)[u]) from by rw[hG];dsimp only;rw[clB_succ i k (I k) hu];simp only[List.append_assoc])
       have HG0:=Hy (show G 0=allX I n i++rowX I i k from by rw[hG];exact List.append_nil _)
       have HGN:=Hy (show G (I i).length=allX I n i++rowX I i (k+1) from by rw[hG];dsimp only;rw[List.take_length,HXR.out,List.append_assoc])
       have HGL:=Hy (fun u (hu:u<=(I i).length)=>show (G u).length<=100000000000 from by
        rw[hG]
        dsimp only
        have h1:=clB_len i k ((I i).take u) (I k)
        have h2:=HIL.out i
        have h3:((I i).take u).length<=(I i).length:=by rw[List.length_take];omega
        have hb1:=allX_len HIL.out n i
        have hb2:=rowX_len HIL.out i k
        have hnn:i * (n * 2097152)<=100 * (100 * 2097152):=Nat.mul_le_mul (by omega) (Nat.mul_le_mul (by omega) (Nat.le_refl _))
        have hkk:k * 2097152<=100 * 2097152:=Nat.mul_le_mul (by omega) (Nat.le_refl _)
        rw[List.length_append,List.length_append];omega)
       clear hG HBN
       go_wp2
       go_loopw [5,59] (fun s ix wr=>∃ u:Nat,u<=(I i).length∧ix=.int .i64 u∧Hid (wr.ownsRow w.heap.size 120 4 s (G u).length ((G u).flatMap claC))∧Hid (I i≠[]->HeldR s wk.heap.size Ai wr∧HMap (keyPair pair_spot) wr wk.heap.size (I k).length (lookI (I k))∧RdI wr Ai (I i))∧Ext w wr) (fun s ix _=>(I i).length - (intOf ix).toNat)
       case atStart=>exact⟨0,Nat.zero_le _,rfl,Hy (by rw[HG0.out];exact HO5.out),Hy (fun hne=>⟨HHR.out hne,HM5.out,HI5.out⟩),hxw5⟩
       case round =>
        clear HO5 HHR HM5 HI5 hxw5 HO
        obtain⟨u,hu,rfl,HOu,HHu,hxu⟩:=hrel
        obtain⟨wu,rfl⟩:∃ wu:World,wu=wr:=⟨_,rfl⟩
        by_cases hltu:u < (I i).length
        ·have hne:I i≠[]:=fun e=>by rw[e] at hltu;exact absurd hltu (Nat.not_lt_zero _)
         obtain⟨hHR,hHM,hRD⟩:=HHu.out hne
         have HHRu:=Hy hHR;have HHMu:=Hy hHM;have HRDu:=Hy hRD
         obtain⟨g,go,rfl,hX⟩:=hRD hne
         have LD:=load_It (hX u hltu)
         have HT:=Hy (HGS.out u hltu)
         have hgl:=HGL.out u (by omega)
         have HOK:=Hy (okP_spot (HSMI.out _ (List.getElem_mem hltu)))
         have HFND:=Hy (lookI_find (I k) (I i)[u])
         clear hX hHR hHM hRD HHu
         generalize (I i)[u]=x at *
         have CP:=Hy (fun W=>SpotOf_any x W)
         dsimp only[itmV] at LD CP
         have b1:=Blk.new wu 104 #[.int .i64 x.kind,.string x.path,.string x.data,.bool x.runs,.string x.key,.string x.val,.string x.sn,.string x.sp,.bool x.auto,.bool x.on]
         have hxa:Ext wu (wu.alloc (.cells #[.int .i64 x.kind,.string x.path,.string x.data,.bool x.runs,.string x.key,.string x.val,.string x.sn,.string x.sp,.bool x.auto,.bool x.on] 104)):=(Ext.refl wu).alloc _
         generalize hW6:wu.alloc (.cells #[.int .i64 x.kind,.string x.path,.string x.data,.bool x.runs,.string x.key,.string x.val,.string x.sn,.string x.sp,.bool x.auto,.bool x.on] 104)=w6 at *
         have HW6:=Hy hW6
         have LB:=loadB_It b1 rfl
         have e1:=b1.cell;have l1:=b1.lt
         clear hW6
         go_wp2_with (first|(rw[HW6.out])|(refine wpList_load_at rfl _ _ rfl _ rfl _ LD ?_)|(refine wpList_load_at rfl _ _ rfl _ rfl _ LB ?_))
         refine (CP.out _).mono ?_
         rintro e w7 ⟨rfl,hx7⟩
         have b2:=b1.ext hx7
         clear LD LB e1 l1 CP b1
         have bS:=Blk.new w7 214 #[.int .i64 (spotK x),.string (spotN x)]
         have hxs:Ext w7 (w7.alloc (.cells #[.int .i64 (spotK x),.string (spotN x)] 214)):=(Ext.refl w7).alloc _
         generalize hW8:w7.alloc (.cells #[.int .i64 (spotK x),.string (spotN x)] 214)=w8 at *
         have HW8:=Hy hW8
         have hx8:=hxa.trans (hx7.trans hxs)
         have b3:=b2.ext hxs
         have LS:=loadB_Sp bS rfl
         have eS:=bS.cell;have lS:=bS.lt
         have hlook:(Instr.lookup 220 (.map (some wk.heap.size)) (.agg #[.int .i64 (spotK x),.string (spotN x)]) true).run Tryz.prog w8=.ok (.tuple #[((findI (I k) x).map itmV).getD (itmV zeroI),.bool (findI (I k) x).isSome]) w8:=by
          have h:=((HHMu.out.ext hx8).look (m:=220) Tryz.underlying220 (itm_zero _) HOK.out).1
          rw[HFND.out,Option.isSome_map] at h
          exact h
         clear hW8 b2
         have hxw8:=hxu.trans hx8
         have hown8:=own_ext HOu.out hx8
         have hHR8:=HHRu.out.ext hx8.size
         have hHM8:=HHMu.out.ext hx8
         have hRD8:=HRDu.out.ext hx8
         cases hF:findI (I k) x with
         | none =>
           rw[hF] at hlook HT
           dsimp only[Option.map_none,Option.getD_none,Option.isSome_none] at hlook
           have HT2:=Hy (show G (u+1)=G u from by rw[HT.out];simp[clX])
           have hx9:Ext w8 (w8.alloc (.cells #[.int .i64 0,.string ⟨#[]⟩,.string ⟨#[]⟩,.bool false,.string ⟨#[]⟩,.string ⟨#[]⟩,.string ⟨#[]⟩,.string ⟨#[]⟩,.bool false,.bool false] 104)):=(Ext.refl w8).alloc _
           have HRES:=Hy (show (w8.alloc (.cells #[.int .i64 0,.string ⟨#[]⟩,.string ⟨#[]⟩,.bool false,.string ⟨#[]⟩,.string ⟨#[]⟩,.string ⟨#[]⟩,.string ⟨#[]⟩,.bool false,.bool false] 104)).ownsRow w.heap.size 120 4 _ (G (u+1)).length ((G (u+1)).flatMap claC) from by rw[HT2.out];exact own_ext hown8 hx9)
           have HRES2:=Hy (fun (_:I i≠[])=>(⟨hHR8.ext hx9.size,hHM8.ext hx9,hRD8.ext hx9⟩:HeldR _ wk.heap.size _ _∧HMap (keyPair pair_spot) _ wk.heap.size (I k).length (lookI (I k))∧RdI _ _ (I i)))
           dsimp only[itmV,zeroI] at hlook
           clear HT hown8 hHR8 hHM8 hRD8 HFND
           go_upto_region 19 with (first|(rw[HW8.out])|(refine wpList_load_at rfl _ _ rfl _ rfl _ LS ?_))
           clear hlook LS
           go_wp2
           go_roundw
           case rel=>exact⟨u+1,by omega,by go_num,HRES,HRES2,hxw8.trans hx9⟩
           case measure=>simp[intOf];omega
         | some y =>
           rw[hF] at hlook HT
           dsimp only[Option.map_some,Option.getD_some,Option.isSome_some] at hlook
           have HT2:=Hy (show G (u+1)=G u++(if togI x y=true then [] else [⟨i,k,spotK x,spotN x⟩]) from HT.out)
           have b5:=Blk.new w8 104 #[.int .i64 y.kind,.string y.path,.string y.data,.bool y.runs,.string y.key,.string y.val,.string y.sn,.string y.sp,.bool y.auto,.bool y.on]
           have hx9:Ext w8 (w8.alloc (.cells #[.int .i64 y.kind,.string y.path,.string y.data,.bool y.runs,.string y.key,.string y.val,.string y.sn,.string y.sp,.bool y.auto,.bool y.on] 104)):=(Ext.refl w8).alloc _
           have b6:=b3.ext hx9
           have bS9:=bS.ext hx9
           have hown9:=own_ext hown8 hx9
           have hHR9:=hHR8.ext hx9.size
           have hHM9:=hHM8.ext hx9
           have hRD9:=hRD8.ext hx9
           have hxw9:=hxw8.trans hx9
           dsimp only[itmV] at hlook
           generalize hW9:w8.alloc (.cells #[.int .i64 y.kind,.string y.path,.string y.data,.bool y.runs,.string y.key,.string y.val,.string y.sn,.string y.sp,.bool y.auto,.bool y.on] 104)=w9 at *
           have HW9:=Hy hW9
           have hqf:=run_eqlf x.path x.data x.runs y.path y.data y.runs
           have e5:=b5.cell;have l5:=b5.lt;have e6:=b6.cell;have l6:=b6.lt;have e7:=bS9.cell;have l7:=bS9.lt
           have HTG:=Hy (togI_parts x y)
           obtain⟨TG,hTG⟩:∃ TG,TG=togI x y:=⟨_,rfl⟩
           rw[<-hTG] at HTG HT2
           generalize hSK:spotK x=K at *
           generalize hSN:spotN x=NM at *
           clear hW9 hTG hown8 hHR8 hHM8 hRD8 HT b3 bS HFND HOK hSK hSN
           obtain⟨xk,xp,xd,xr,xe,xv,xs,xq,xa,xo⟩:=x
           obtain⟨yk,yp,yd,yr,ye,yv,ys,yq,ya,yo⟩:=y
           dsimp only at *
           generalize hFE:(decide (xp=yp)&&(decide (xd=yd)&&decide (xr=yr)))=FE at *
           clear hFE
           cases TG with
           | true =>
             have h3:=HTG.out
             rw[Eq.comm,Bool.and_eq_true,Bool.and_eq_true,decide_eq_true_eq,decide_eq_true_eq] at h3
             obtain⟨rfl,rfl,rfl⟩:=h3
             have HT3:=Hy (show G (u+1)=G u from by rw[HT2.out];simp)
             have HRES:=Hy (show w9.ownsRow w.heap.size 120 4 _ (G (u+1)).length ((G (u+1)).flatMap claC) from by rw[HT3.out];exact hown9)
             have HRES2:=Hy (fun (_:I i≠[])=>(⟨hHR9,hHM9,hRD9⟩:HeldR _ wk.heap.size _ _∧HMap (keyPair pair_spot) _ wk.heap.size (I k).length (lookI (I k))∧RdI _ _ (I i)))
             clear HT2 HTG hown9 hHR9 hHM9 hRD9
             go_upto_region 19 with (first|(rw[HW8.out])|(rw[HW9.out])|(refine wpList_load_at rfl _ _ rfl _ rfl _ LS ?_))
             try rw[HW9.out]
             clear hlook LS
             go_wp2
             go_roundw
             case rel=>exact⟨u+1,by omega,by go_num,HRES,HRES2,hxw9⟩
             case measure=>simp[intOf];omega
           | false =>
             have HT3:=Hy (show G (u+1)=G u++[⟨i,k,K,NM⟩] from by rw[HT2.out];simp)
             have hcase:(decide (xk=2)=true∧decide (yk=2)=true∧FE=false)∨(decide (xk=2)=true∧decide (yk=2)=false)∨decide (xk=2)=false:=by
              have h3:=HTG.out
              revert h3
              cases decide (xk=2)<;>cases decide (yk=2)<;>cases FE<;>simp
             have HOW9:=Hy hown9;have HHR9:=Hy hHR9;have HHM9:=Hy hHM9;have HRD9:=Hy hRD9
             have hB9:=hxw9.size
             clear HT2 HTG hHR9 hHM9 hRD9 hown9
             rcases hcase with ⟨q1,q2,rfl⟩|⟨q1,q2⟩|q1
             all_goals
              try obtain rfl:=of_decide_eq_true q1
              try obtain rfl:=of_decide_eq_true q2
              try have q3:(xk==2)=false:=by rw[beq_eq_false_iff_ne];exact of_decide_eq_false q1
              try have q4:(yk==2)=false:=by rw[beq_eq_false_iff_ne];exact of_decide_eq_false q2
              try clear q1
              try clear q2
              go_upto_region 19 with (first|(rw[HW8.out])|(rw[HW9.out])|(refine wpList_load_at rfl _ _ rfl _ rfl _ LS ?_))
              try rw[HW9.out]
              clear hlook LS
              go_wp2_with (at_builtin;refine wpList_appC2 _ _ _ _ _ rfl _ _ rfl w.heap.size _ (G u) _ rfl HOW9.out rfl _ _ rfl rfl hgl hB9 ?_;intro v' wE hownE hgE hatE)
              have hxal:Ext w9 (w9.alloc (.cells #[.int .i64 (i:Int),.int .i64 (k:Int),.int .i64 K,.string NM] 120)):=(Ext.refl w9).alloc _
              have HRES:=Hy (show wE.ownsRow w.heap.size 120 4 v' (G (u+1)).length ((G (u+1)).flatMap claC) from by rw[HT3.out];exact hownE)
              have HRES2:=Hy (fun (_:I i≠[])=>(show HeldR v' wk.heap.size (some ⟨g,go,none⟩) wE∧HMap (keyPair pair_spot) wE wk.heap.size (I k).length (lookI (I k))∧RdI wE (some ⟨g,go,none⟩) (I i) from
               ⟨(HHR9.out.ext hxal.size).app hgE.size (by rw[World.size_alloc];exact Nat.le_refl _) hatE,(HHM9.out.ext hxal).far hgE HHR9.out.1,(HRD9.out.ext hxal).farC (grown_extO hgE) fun g' o' e=>(HHR9.out.2.2 g' o' e).1⟩))
              have hxE:Ext w wE:=(hxw9.trans hxal).grown (own_ext HOW9.out hxal) (Nat.le_refl _) hgE
              clear hownE hgE hatE hxal
              go_wp2
              go_roundw
              case rel=>exact⟨u+1,by omega,by go_num,HRES,HRES2,hxE⟩
              case measure=>simp[intOf];omega
        ·have HRES:=Hy (show wu.ownsRow w.heap.size 120 4 _ (allX I n i++rowX I i (k+1)).length ((allX I n i++rowX I i (k+1)).flatMap claC) from by
          have e:u=(I i).length:=by omega
          rw[<-HGN.out,<-e]
          exact HOu.out)
         clear HOu HHu
         go_wp2
         go_roundw
         case rel=>exact⟨k+1,by omega,by omega,by go_num,HRES,hxu⟩
         case measure=>simp[intOf];omega
end Go.Proofs.YtmpccllnpcbgcaaGreatDoor
