/- Contract of outref2.StepsOf. -/
import Derived.Test.YtmpccllnpcbgcaaGreatDoorPk02
import Derived.Test.YtmpccllnpcbgcaaGreatDoorPk04
import Derived.Test.YtmpccllnpcbgcaaGreatDoorPk08
import Derived.Test.YtmpccllnpcbgcaaGreatDoorPk09
import Derived.Test.YtmpccllnpcbgcaaGreatDoorPk10
import Derived.Test.YtmpccllnpcbgcaaGreatDoorPk19
import Derived.Test.YtmpccllnpcbgcaaGreatDoorPk22
import Derived.Test.YtmpccllnpcbgcaaGreatDoorPk25
import Derived.Test.YtmpccllnpcbgcaaGreatDoorPk27
import Derived.Test.YtmpccllnpcbgcaaGreatDoorPk29
import Derived.Test.YtmpccllnpcbgcaaGreatDoorPk32
import Derived.Test.YtmpccllnpcbgcaaGreatDoorPk34
import Derived.Test.YtmpccllnpcbgcaaGreatDoorPk35
import Derived.Test.YtmpccllnpcbgcaaGreatDoorPk39
import Derived.Test.YtmpccllnpcbgcaaGreatDoorPk40
import Derived.Test.YtmpccllnpcbgcaaGreatDoorPk41
import Derived.Test.YtmpccllnpcbgcaaGreatDoorPaL
import Derived.Test.YtmpccllnpcbgcaaGreatDoorPaE
import Derived.Test.YtmpccllnpcbgcaaGreatDoorPaF
import Derived.Test.YtmpccllnpcbgcaaGreatDoorPaG
import Derived.Test.YtmpccllnpcbgcaaGreatDoorProg
import Derived.Test.YtmpccllnpcbgcaaGreatDoorShelf
import Derived.Lib.Split
import Derived.Lib.IndexBytes
import Derived.Lib.ItoaLen
import Derived.WalkKit
import Derived.WalkSpells
import Derived.WalkLawsBesides
import Derived.LoopTactic
import Derived.Outline
import Derived.Lib.Hide
import Derived.Lib.LaidTab
import Derived.Lib.ConvBytes
import Derived.Lib.ItoaNum
import Derived.WalkSmall
import Derived.Sort.Grow
import Derived.Deep.QuietTactic
import Derived.BigQuiet
import Derived.Lib.Replace
import Derived.Lib.SplitLaws
import Derived.Laws.AppendOwn
import Derived.Laws.OwnMore
import Derived.Maps.AppendAt
import Derived.OwnWalk
import Derived.Lib.Join
import Derived.StillTail
import Derived.Lib.AtoiAll
import Derived.Lib.Small
import Derived.Lib.Bytealg
import Derived.Deep.DeepCutAuto
import Derived.Deep.AppendLies
import Derived.Deep.RegionHeld3
import Derived.Deep.RegionLaw
import Derived.MapKept
import Derived.Laws.StructEq
import Derived.Deep.LoopGhost
import Derived.Laws.Cells
import Derived.Maps.OwnSet
import Derived.Maps.StringElems
import Derived.Sort.Walk0
import Derived.Sort.KeysCollected
import Derived.Lib.SlicesCompact
import Derived.Maps.RangeWalk
import Derived.Deep.Upon
import Derived.ArgAppend
import Derived.Laws.MakeOwn
import Derived.DeepKeys3
import Derived.Laws.EntriesVeiled
import Derived.Lib.SliceRun
import Derived.Laws.IdiomCopy
namespace Go.Proofs.YtmpccllnpcbgcaaGreatDoor
open Go.RowKit
set_option maxHeartbeats 16000000 in
set_option maxRecDepth 100000 in
theorem StepsOf_any (p:Pkg) (A:Option Addr) (c:Nat) (A2:Option Addr) (c2:Nat) (A3:Option Addr) (c3:Nat) (A4:Option Addr) (c4:Nat) (ML:List ByteArray) (An:Option Addr) (nn cn:Nat) (w:World) (hr:RdC w A3 p.comps) (h30:p.comps.length<=30) (hcap:p.comps.length<=c3) (hnc:∀ c∈p.comps,∀ x∈c.needs,isComp p.comps x=true) (hsm:∀ c∈p.comps,SmallCm c) (hmc:∀ x∈ML,isComp p.comps x=true) (hnn:ML.length=nn) (hcn:nn<=cn) (hrn:RdX w An ML) (hln:nn<=2000000) :
 Calls Tryz.prog 64 #[pkV p A c A2 c2 A3 c3 A4 c4,.slice An nn cn] w fun e w'=>∃ A' cc,e=.returned (.slice A' (stpM p.comps ML).length cc)∧(stpM p.comps ML).length<=62914560∧RdSt w' A' (stpM p.comps ML)∧Ext w w':=by
 have HRC:=Hy hr
 have HSM:=Hy hsm
 have HNC:=Hy hnc
 have HMC:=Hy hmc
 have HRX:=Hy hrn
 have HL1:=Hy (show stpM p.comps ML=(visF p.comps p.comps.length ML ([],[])).2 from rfl)
 clear hr hsm hnc hmc hrn
 generalize stpM p.comps ML=SL at *
 obtain⟨pn,⟨v1,v2,v3,va⟩,pt,pe,pb,l,pm⟩:=p
 dsimp only[pkV] at *
 generalize pe.length=l1 at *
 generalize pb.length=l2 at *
 generalize pm.length=l4 at *
 have HFR:=Hy (frC_all l)
 generalize hn:l.length=n at h30 HL1 hcap HFR ⊢
 have HN:=Hy hn
 clear hn
 have b0:=Blk.new w 76 #[.string pn,.int .i64 v1,.int .i64 v2,.int .i64 v3,.string va,.string pt,.slice A l1 c,.slice A2 l2 c2,.slice A3 n c3,.slice A4 l4 c4]
 have hx0:Ext w (w.alloc (.cells #[.string pn,.int .i64 v1,.int .i64 v2,.int .i64 v3,.string va,.string pt,.slice A l1 c,.slice A2 l2 c2,.slice A3 n c3,.slice A4 l4 c4] 76)):=(Ext.refl w).alloc _
 have s0:(w.alloc (.cells #[.string pn,.int .i64 v1,.int .i64 v2,.int .i64 v3,.string va,.string pt,.slice A l1 c,.slice A2 l2 c2,.slice A3 n c3,.slice A4 l4 c4] 76)).heap.size=w.heap.size+1:=World.size_alloc _ _
 generalize hW1:w.alloc (.cells #[.string pn,.int .i64 v1,.int .i64 v2,.int .i64 v3,.string va,.string pt,.slice A l1 c,.slice A2 l2 c2,.slice A3 n c3,.slice A4 l4 c4] 76)=w1 at *
 have x2:Ext w1 (w1.alloc (.cells #[.slice none 0 0] 80)):=(Ext.refl _).alloc _
 have t2:(w1.alloc (.cells #[.slice none 0 0] 80)).heap.size=w.heap.size+2:=by rw[World.size_alloc,s0]
 have k2:=Blk.new w1 80 #[.slice none 0 0]
 rw[s0] at k2
 generalize hW2:w1.alloc (.cells #[.slice none 0 0] 80)=W2 at *
 have x3:Ext W2 (W2.alloc (.map #[] 0)):=(Ext.refl _).alloc _
 have t3:(W2.alloc (.map #[] 0)).heap.size=w.heap.size+3:=by rw[World.size_alloc,t2]
 have k3:=KSet.made W2
 rw[t2] at k3
 generalize hW3:W2.alloc (.map #[] 0)=W3 at *
 have x4:Ext W3 (W3.alloc (.cells #[.map (some (w.heap.size+2))] 191)):=(Ext.refl _).alloc _
 have t4:(W3.alloc (.cells #[.map (some (w.heap.size+2))] 191)).heap.size=w.heap.size+4:=by rw[World.size_alloc,t3]
 have k4:=Blk.new W3 191 #[.map (some (w.heap.size+2))]
 rw[t3] at k4
 generalize hW4:W3.alloc (.cells #[.map (some (w.heap.size+2))] 191)=W4 at *
 have x5:Ext W4 (W4.alloc (.cells #[.func (.func 141) #[] (stCaps (w.heap.size+3) w.heap.size (w.heap.size+4) (w.heap.size+1))] 211)):=(Ext.refl _).alloc _
 have t5:(W4.alloc (.cells #[.func (.func 141) #[] (stCaps (w.heap.size+3) w.heap.size (w.heap.size+4) (w.heap.size+1))] 211)).heap.size=w.heap.size+5:=by rw[World.size_alloc,t4]
 have k5:=Blk.new W4 211 #[.func (.func 141) #[] (stCaps (w.heap.size+3) w.heap.size (w.heap.size+4) (w.heap.size+1))]
 rw[t4] at k5
 have HW:=Hy (show ((((w.alloc (.cells #[.string pn,.int .i64 v1,.int .i64 v2,.int .i64 v3,.string va,.string pt,.slice A l1 c,.slice A2 l2 c2,.slice A3 n c3,.slice A4 l4 c4] 76)).alloc (.cells #[.slice none 0 0] 80)).alloc (.map #[] 0)).alloc (.cells #[.map (some (w.heap.size+2))] 191)).alloc (.cells #[.func (.func 141) #[] (stCaps (w.heap.size+3) w.heap.size (w.heap.size+4) (w.heap.size+1))] 211)=W4.alloc (.cells #[.func (.func 141) #[] (stCaps (w.heap.size+3) w.heap.size (w.heap.size+4) (w.heap.size+1))] 211) from by rw[hW1,hW2,hW3,hW4])
 generalize W4.alloc (.cells #[.func (.func 141) #[] (stCaps (w.heap.size+3) w.heap.size (w.heap.size+4) (w.heap.size+1))] 211)=w6 at *
 have x15:Ext w1 w6:=x2.trans (x3.trans (x4.trans x5))
 have hx05:=hx0.trans x15
 have HS6:=Hy (show StSt 141 w w.heap.size #[.string pn,.int .i64 v1,.int .i64 v2,.int .i64 v3,.string va,.string pt,.slice A l1 c,.slice A2 l2 c2,.slice A3 n c3,.slice A4 l4 c4] (w.heap.size+1) (w.heap.size+2) (w.heap.size+3) (w.heap.size+4) w6.heap.size 0 [] [] w6 from
  ⟨b0.ext x15,k4.ext x5,k3.ext (x4.trans x5),k5,⟨_,k2.ext (x3.trans (x4.trans x5)),World.ownsRow_nil _ _ _ _⟩,hx05,by omega,by omega,by omega,by omega,Nat.le_refl _⟩)
 have hmm:=@run_makeMap Tryz.prog
 have HNN:=Hy hnn
 clear hW1 hW2 hW3 hW4 x2 x3 x4 x5 t2 t3 t4 k2 k3 k4 k5 b0 hx0 x15 hx05 s0 hnn
 go_enter Tryz.func64,Tryz.ntmps64
 go_upto_region 6 with fail
 rw[HW.out]
 clear hmm t5
 go_loopw [14] (fun i wr=>∃ (j Nj:Nat),i=.int .i64 j∧j<=nn∧Nj+frC l (visF l n (ML.take j) ([],[])).1<=30∧Hid (StSt 141 w w.heap.size #[.string pn,.int .i64 v1,.int .i64 v2,.int .i64 v3,.string va,.string pt,.slice A l1 c,.slice A2 l2 c2,.slice A3 n c3,.slice A4 l4 c4] (w.heap.size+1) (w.heap.size+2) (w.heap.size+3) (w.heap.size+4) w6.heap.size Nj (visF l n (ML.take j) ([],[])).1 (visF l n (ML.take j) ([],[])).2 wr)) (fun i _=>nn - (intOf i).toNat)
 case atStart=>exact⟨0,0,rfl,Nat.zero_le _,by show 0+frC l []<=30;rw[HFR.out];omega,HS6⟩
 case round =>
  clear HS6
  obtain⟨j,Nj,rfl,hj,hNj,HSj⟩:=hrel
  obtain⟨wo,rfl⟩:∃ wo:World,wo=wr:=⟨_,rfl⟩
  have hlen:=visF_len (l:=l) (K:=2097152) (fun c hc=>(HSM.out c hc).slen) n (ML.take j) ([],[])
  have hfr:=frC_len l (visF l n (ML.take j) ([],[])).1
  rw[HN.out] at hfr
  rw[HFR.out] at hlen
  dsimp only at hlen
  by_cases hlt:j < nn
  ·have hlt1:j < ML.length:=by rw[HNN.out];exact hlt
   obtain⟨b6,o6,rfl,hX6⟩:=(HRX.out.ext HSj.out.x) (fun e=>by rw[e] at hlt1;exact absurd hlt1 (Nat.not_lt_zero _))
   have hc6:=hX6 j hlt1
   have hcl:=lt_of_cell hc6
   have HSX:=Hy (visF_succ l n ML ([],[]) hlt1)
   have HR:=Hy (visR_any w l w.heap.size (w.heap.size+1) (w.heap.size+2) (w.heap.size+3) (w.heap.size+4) w6.heap.size pn v1 v2 v3 va pt A l1 c A2 l2 c2 A3 n c3 A4 l4 c4 HN.out h30 hcap HRC.out HNC.out HSM.out n ML[j] _ _ Nj wo (HMC.out _ (List.getElem_mem hlt1)) hfr hNj (by simp only[List.length_nil] at hlen;omega) HSj.out)
   have cV:=HSj.out.v.cell;have lV:=HSj.out.v.lt
   clear hX6
   generalize ML[j]=x at *
   go_wp2_with fail
   refine HR.out.mono ?_
   rintro e w5 ⟨rfl,N',hN',hst',hxs⟩
   have HST5:=Hy hst'
   clear hst' cV lV hc6 hcl
   go_wp2
   go_roundw
   case rel=>exact⟨j+1,N',by go_num,by omega,by rw[HSX.out];exact hN',by rw[HSX.out];exact HST5⟩
   case measure=>simp[intOf];omega
  ·obtain rfl:j=nn:=by omega
   have HF:=Hy (show (visF l n (ML.take j) ([],[])).2=SL from by rw[<-HNN.out,List.take_length];exact HL1.out.symm)
   rw[HF.out] at HSj hlen
   obtain⟨u,hbo,hown⟩:=HSj.out.o
   have cO:=hbo.cell;have lO:=hbo.lt
   obtain⟨A7,c7,rfl,hcc7,hrd7⟩:=rdst_own hown rfl
   have HRD:=Hy hrd7
   have hxf:=HSj.out.x
   clear hown hrd7
   go_wp2
   go_ret
   exact⟨A7,c7,rfl,by simp only[List.length_nil] at hlen;omega,HRD.out,hxf⟩
end Go.Proofs.YtmpccllnpcbgcaaGreatDoor
