/- outref2.ClosedOf: its row is the call's own. (Turned from PlQ's ClosedOf_any.) -/
import Derived.Test.YtmpccllnpcbgcaaGreatDoorPk02
import Derived.Test.YtmpccllnpcbgcaaGreatDoorPk04
import Derived.Test.YtmpccllnpcbgcaaGreatDoorPk08
import Derived.Test.YtmpccllnpcbgcaaGreatDoorPk09
import Derived.Test.YtmpccllnpcbgcaaGreatDoorPk19
import Derived.Test.YtmpccllnpcbgcaaGreatDoorPk22
import Derived.Test.YtmpccllnpcbgcaaGreatDoorPk25
import Derived.Test.YtmpccllnpcbgcaaGreatDoorPk27
import Derived.Test.YtmpccllnpcbgcaaGreatDoorPk29
import Derived.Test.YtmpccllnpcbgcaaGreatDoorPk32
import Derived.Test.YtmpccllnpcbgcaaGreatDoorPk34
import Derived.Test.YtmpccllnpcbgcaaGreatDoorPk35
import Derived.Test.YtmpccllnpcbgcaaGreatDoorPk39
import Derived.Test.YtmpccllnpcbgcaaGreatDoorPk40
import Derived.Test.YtmpccllnpcbgcaaGreatDoorProg
import Derived.Test.YtmpccllnpcbgcaaGreatDoorShelf
import Derived.Lib.Split
import Derived.Lib.IndexBytes
import Derived.Lib.ItoaLen
import Derived.WalkKit
import Derived.WalkSpells
import Derived.WalkLawsBesides
import Derived.LoopTactic
import Derived.Outline
import Derived.Lib.Hide
import Derived.Lib.LaidTab
import Derived.Lib.ConvBytes
import Derived.Lib.ItoaNum
import Derived.WalkSmall
import Derived.Sort.Grow
import Derived.Deep.QuietTactic
import Derived.BigQuiet
import Derived.Lib.Replace
import Derived.Lib.SplitLaws
import Derived.Laws.AppendOwn
import Derived.Laws.OwnMore
import Derived.Maps.AppendAt
import Derived.OwnWalk
import Derived.Lib.Join
import Derived.StillTail
import Derived.Lib.AtoiAll
import Derived.Lib.Small
import Derived.Lib.Bytealg
import Derived.Deep.DeepCutAuto
import Derived.Deep.AppendLies
import Derived.Deep.RegionHeld3
import Derived.Deep.RegionLaw
import Derived.MapKept
import Derived.Laws.StructEq
import Derived.Deep.LoopGhost
import Derived.Laws.Cells
import Derived.Maps.OwnSet
import Derived.Maps.StringElems
import Derived.Sort.Walk0
import Derived.Sort.KeysCollected
import Derived.Lib.SlicesCompact
import Derived.Maps.RangeWalk
import Derived.Deep.Upon
import Derived.ArgAppend
import Derived.Laws.MakeOwn
import Derived.DeepKeys3
import Derived.Laws.EntriesVeiled
namespace Go.Proofs.YtmpccllnpcbgcaaGreatDoor
open Go.RowKit
set_option maxHeartbeats 32000000 in
set_option maxRecDepth 100000 in
theorem ClosedOfW_any (p:Pkg) (A:Option Addr) (c:Nat) (A2:Option Addr) (c2:Nat) (A3:Option Addr) (c3:Nat) (A4:Option Addr) (c4:Nat) (ns:List ByteArray) (An:Option Addr) (nn cn:Nat) (w:World) (hr:RdC w A3 p.comps) (h30:p.comps.length<=30) (hnd:(p.comps.map Cmp.name).Nodup) (hsn:∀ c∈p.comps,c.name.size<=2097152) (hns:∀ c∈p.comps,∀ x∈c.needs,x.size<=2097152) (hnt:(p.comps.flatMap Cmp.needs).length<=2097152)
 (hnn:ns.length=nn) (hrn:RdX w An ns) (hln:nn<=2097152) (hch:∀ x∈ns,isComp p.comps x=true) :
 Calls Tryz.prog 53 #[pkV p A c A2 c2 A3 c3 A4 c4,.slice An nn cn] w fun e w'=>∃ (v:Value) (B:Nat),e=.returned v∧w.heap.size<=B∧w'.ownsRow B 9 1 v (markL p.comps (clsV p.comps ns)).length ((markL p.comps (clsV p.comps ns)).map Value.string)∧Ext w w':=by
 have HR:=Hy hr
 have HRN:=Hy hrn
 have CN:=Hy (fun W (h:Ext w W)=>needsOf_any p A c A2 c2 A3 c3 A4 c4 W (hr.ext h) (by omega) hsn hnd)
 have CL:=Hy (fun w0 bA nA a W (h:Ext w0 W) (ha:a.size<=2097152) (hm:NdMap w0 W bA nA p.comps)=>leads2_any w0 bA nA p.comps a W (needs_small (needs_each hnt) hns) (needs_few hnt) ha h hm)
 have CT:=Hy (fun W (h:Ext w W) x=>ContainsXA_any An nn cn ns x W hnn (hrn.ext h) hln)
 have HGS:=Hy (fun k x (h:selC p.comps ns k=false)=>GatK.skip (l:=p.comps) (sel:=selC p.comps ns) (k:=k) h x)
 have HGT:=Hy (fun k x (h:selC p.comps ns k=true)=>GatK.take (l:=p.comps) (sel:=selC p.comps ns) (k:=k) h x)
 have HSEL:=Hy (fun k (hk:k < p.comps.length)=>show selC p.comps ns k=(p.comps[k].alw||memB p.comps[k].name ns) from by unfold selC;rw[getD_cm hk])
 have HGN:=Hy (fun k (hk:k < p.comps.length)=>show (p.comps.getD k zeroP).name=p.comps[k].name from by rw[getD_cm hk])
 have HEQ:=Hy (fun M hM i=>closedOf_eq (l:=p.comps) hch (M:=M) hM i)
 have HMC:=Hy (fun V h=>markL_congr (l:=p.comps) (V:=V) (U:=clsV p.comps ns) h)
 have HMS:=Hy (fun V k=>markK_succ (l:=p.comps) (V:=V) (k:=k))
 have HML:=Hy (fun V=>markK_len p.comps V)
 have HMD:=Hy (fun V=>show markL p.comps V=markK p.comps V p.comps.length from rfl)
 have HSN:=Hy (fun k (hk:k < p.comps.length)=>hsn _ (List.getElem_mem hk))
 have HLS:=Hy (show ∀ a x,Leads p.comps a x->x.size<=2097152 from fun a x h=>by
  obtain⟨c,hc,hx⟩:=List.mem_flatMap.1 (leads_need h)
  exact hns c hc x hx)
 clear hr hrn hnd hsn hns hnt hch
 obtain⟨pn,⟨v1,v2,v3,va⟩,pt,pe,pb,l,pm⟩:=p
 dsimp only[pkV] at *
 generalize pe.length=l1 at *
 generalize pb.length=l2 at *
 generalize pm.length=l4 at *
 generalize markL l (clsV l ns)=ML at *
 generalize hn:l.length=n at h30 CN HMC HEQ HMD ⊢
 have HN:=Hy hn
 clear hn
 have b0:=Blk.new w 76 #[.string pn,.int .i64 v1,.int .i64 v2,.int .i64 v3,.string va,.string pt,.slice A l1 c,.slice A2 l2 c2,.slice A3 n c3,.slice A4 l4 c4]
 have hx0:Ext w (w.alloc (.cells #[.string pn,.int .i64 v1,.int .i64 v2,.int .i64 v3,.string va,.string pt,.slice A l1 c,.slice A2 l2 c2,.slice A3 n c3,.slice A4 l4 c4] 76)):=(Ext.refl w).alloc _
 generalize hW0:w.alloc (.cells #[.string pn,.int .i64 v1,.int .i64 v2,.int .i64 v3,.string va,.string pt,.slice A l1 c,.slice A2 l2 c2,.slice A3 n c3,.slice A4 l4 c4] 76)=W0 at *
 have HW0:=Hy hW0
 have e0:=b0.cell;have l0:=b0.lt
 clear hW0
 go_enter Tryz.func53,Tryz.ntmps53
 go_wp2_with fail
 rw[HW0.out]
 refine (CN.out _ hx0).mono ?_
 rintro e w1 ⟨bA,rfl,hbA,hma,hx1⟩
 have hx01:=hx0.trans hx1
 have hlA:=hma.lt
 have hs1:=hx01.size
 have HST:=Hy (show GtSt W0 w.heap.size #[.string pn,.int .i64 v1,.int .i64 v2,.int .i64 v3,.string va,.string pt,.slice A l1 c,.slice A2 l2 c2,.slice A3 n c3,.slice A4 l4 c4] bA n l w1.heap.size 0 [] (w1.alloc (.map #[] 0)) from
  ⟨(b0.ext hx1).alloc _,hma.ext ((Ext.refl w1).alloc _),KSet.made w1,hx1.alloc _,hx1.size,by omega⟩)
 have e1:=HST.out.p.cell;have l1':=HST.out.p.lt
 have hmm:=@run_makeMap Tryz.prog
 clear hma e0 l0 b0 CN
 go_wp2
 clear e1 l1' hmm
 go_loopw [19] (fun i wr=>∃ (k:Nat) (M:List ByteArray) (N:Nat),k<=n∧i=.int .i64 k∧N<=gtB k∧Hid (∀ (x:ByteArray),x∈M↔GatK l (selC l ns) k x)∧Hid (GtSt W0 w.heap.size #[.string pn,.int .i64 v1,.int .i64 v2,.int .i64 v3,.string va,.string pt,.slice A l1 c,.slice A2 l2 c2,.slice A3 n c3,.slice A4 l4 c4] bA n l w1.heap.size N M wr)) (fun i _=>n - (intOf i).toNat)
 case atStart=>exact⟨0,[],0,Nat.zero_le _,rfl,Nat.zero_le _,Hy (fun x=>⟨fun h=>(by cases h),fun ⟨_,h,_⟩=>absurd h (Nat.not_lt_zero _)⟩),HST⟩
 case round =>
  obtain⟨k,M,N,hk,rfl,hN,HG,HS⟩:=hrel
  obtain⟨wo,rfl⟩:∃ wo:World,wo=wr:=⟨_,rfl⟩
  have hx0o:=HS.out.x
  have hxw:=hx0.trans hx0o
  by_cases hlt:k < n
  ·have hk1:k < l.length:=by rw[HN.out];exact hlt
   obtain⟨b,o,rfl,hX⟩:=HR.out (fun e=>by rw[e] at hk1;exact absurd hk1 (Nat.not_lt_zero _))
   obtain⟨k0,n0,x0,A5,m5,c5,A6,c6,A7,c7,A8,c8,hrow⟩:=hX k hk1
   have LD:=load_Cm (hrow.ext hxw)
   have hnm:=HSN.out k hk1
   have HSK:=Hy (HSEL.out k hk1)
   have HNK:=Hy (HGN.out k hk1)
   have HGSK:=Hy (fun x=>HGS.out k x)
   have HGTK:=Hy (fun x=>HGT.out k x)
   rw[HNK.out] at HGTK
   clear hX hrow
   generalize selC l ns k=SE at *
   generalize l[k]=q at *
   obtain⟨qn,qt,qd,qa,qw,qe,qi,qs⟩:=q
   dsimp only[cmV] at *
   generalize qe.length=l6 at *
   generalize qi.length=l7 at *
   generalize qs.length=l8 at *
   have b1:=Blk.new wo 82 #[.string qn,.string qt,.bool qd,.bool qa,.int .i64 k0,.string n0,.string x0,.slice A5 m5 c5,.slice A6 l6 c6,.slice A7 l7 c7,.slice A8 l8 c8]
   have hxa:Ext wo (wo.alloc (.cells #[.string qn,.string qt,.bool qd,.bool qa,.int .i64 k0,.string n0,.string x0,.slice A5 m5 c5,.slice A6 l6 c6,.slice A7 l7 c7,.slice A8 l8 c8] 82)):=(Ext.refl wo).alloc _
   have HS1:=Hy (HS.out.ext hxa)
   have bC1:=Hy b1
   generalize hW1:wo.alloc (.cells #[.string qn,.string qt,.bool qd,.bool qa,.int .i64 k0,.string n0,.string x0,.slice A5 m5 c5,.slice A6 l6 c6,.slice A7 l7 c7,.slice A8 l8 c8] 82)=W1 at *
   have HW1:=Hy hW1
   clear hW1
   have e1:=b1.cell;have l1':=b1.lt
   have CTK:=Hy (fun W (h:Ext wo W)=>CT.out W (hxw.trans h) qn)
   have hSE:=HSK.out
   generalize memB qn ns=MB at *
   cases SE with
   | false =>
     have HG2:=Hy (show ∀ x:ByteArray,x∈M↔GatK l (selC l ns) (k+1) x from fun x=>(HG.out x).trans (HGSK.out x rfl).symm)
     obtain⟨hqa,hmb⟩:=or_parts hSE
     subst hqa hmb
     clear hSE HSK
     go_wp2_with (refine wpList_load_at rfl _ _ rfl _ rfl _ LD ?_)
     rw[HW1.out]
     refine (CTK.out _ hxa).mono ?_
     rintro e w' ⟨rfl,rfl⟩
     go_wp2
     go_roundw
     case rel=>exact⟨k+1,M,N,by omega,by go_num,by rw[gtB_succ];omega,HG2,HS1⟩
     case measure=>simp[intOf];omega
   | true =>
     have HGT2:=Hy (fun x=>HGTK.out x rfl)
     obtain⟨w3,hr3,hm3,hg3⟩:=HS1.out.m.updB (t:=191) Tryz.underlying191 qn (by omega) (by have:=gtB_le (k:=k) (by omega);omega)
     rw[show M.map bs++[bs qn]=(M++[qn]).map bs from by simp] at hm3
     have hs0o:=hx0o.size
     have HS3:=Hy (HS1.out.upd hg3 hm3)
     have b3:=bC1.out.turned hg3 (by have:=HS.out.m.lt;simp;omega)
     have e3:=b3.cell;have l3':=b3.lt
     have CLK:=Hy (CL.out W0 bA n qn w3 HS3.out.x hnm HS3.out.a)
     have HLK:=Hy (HLS.out qn)
     clear hm3 hg3 b3
     have hor:=or_ways hSE
     clear hSE HSK
     rcases hor with rfl|⟨rfl,rfl⟩
     rotate_left
     ·go_wp2_with (refine wpList_load_at rfl _ _ rfl _ rfl _ LD ?_)
      rw[HW1.out]
      refine (CTK.out _ hxa).mono ?_
      rintro e w' ⟨rfl,rfl⟩
      go_wp2_with fail
      refine CLK.out.mono ?_
      rintro e w4 ⟨s,N2,L,rfl,hs3,hks,hN2,hld,hx4⟩
      have HS4:=Hy (HS3.out.ext hx4)
      have HLD:=Hy hld
      have hslt:=hks.lt
      have hMlt:=HS3.out.m.lt
      have hAlt:=HS3.out.a.lt
      have hPlt:=HS3.out.p.lt
      have hx4s:=hx4.size
      have h03:=HS3.out.x.size
      clear e3 l3' hld hr3 e1 l1'
      go_wp2_with (first
       | (at_range;refine wp_range_k _ rfl _ 191 rfl Tryz.underlying191 s N2 (L.map bs) rfl hks ?_;intro w5 cnt0 hrg0 hg0 hs0)
       | go_in)
      go_frame
      have hx5:Ext w4 w5:=grown_ext0 hg0
      have HS5:=Hy (HS4.out.ext hx5)
      have hc0:=hrg0.cnt_le
      clear hg0 hks
      go_loopw [9] (fun _ wr=>∃ (left:Str->Bool) (cnt N3:Nat) (M2:List ByteArray),RangeK wr s w4.heap.size N2 (L.map bs) left cnt∧N3+cnt<=N+1+N2∧Hid (∀ y,y∈M2↔(y∈M++[qn]∨(y∈L∧left (bs y)=false)))∧Hid (GtSt W0 w.heap.size #[.string pn,.int .i64 v1,.int .i64 v2,.int .i64 v3,.string va,.string pt,.slice A l1 c,.slice A2 l2 c2,.slice (some ⟨b,o,none⟩) n c3,.slice A4 l4 c4] bA n l w1.heap.size N3 M2 wr)) (fun _ wr=>wr.rangeLeft s w4.heap.size)
      case atStart=>exact⟨_,cnt0,N+1,M++[qn],hrg0,by omega,Hy (fun y=>gat_start y),HS5⟩
      case round =>
       clear hrg0
       obtain⟨left,cnt,N3,M2,hrg,hN3,HM2,HSr⟩:=hrel
       go_wp2_with (first
        | (at_next;refine wp_next_k _ rfl _ rfl s w4.heap.size N2 (L.map bs) left cnt rfl hrg ?_ ?_)
        | go_in)
       ·intro hl0
        have HG2:=Hy (show ∀ y:ByteArray,y∈M2↔GatK l (selC l ns) (k+1) y from fun y=>gat_done HM2.out hl0 HG.out HLD.out HGT2.out y)
        clear hl0 hrg
        go_wp2
        go_roundw
        case rel=>exact⟨k+1,M2,N3,by omega,by go_num,by rw[gtB_succ];omega,HG2,HSr⟩
        case measure=>simp[intOf];omega
       ·intro x cv w6 cnt1 hox hlx ya hya hyx hrg1 hcl hg1 hs1 hen
        have hxL:x∈L:=(show ya=x from by cases ya;cases x;cases hyx;rfl) ▸ hya
        have hxs:=HLK.out x ((HLD.out x).1 hxL)
        have HS6:=Hy (HSr.out.row hg1 (by omega) (by omega) (by omega) (by omega))
        obtain⟨w7,hr7,hm7,hg7⟩:=HS6.out.m.updB (t:=191) Tryz.underlying191 x (by omega) (by have:=gtB_le (k:=k) (by omega);omega)
        rw[show M2.map bs++[bs x]=(M2++[x]).map bs from by simp] at hm7
        have HS7:=Hy (HS6.out.upd hg7 hm7)
        have HRG:=Hy (hrg1.grown hg7 (by simp;omega) (by simp;omega))
        have HLE2:=Hy hrg.left_eq
        have HM3:=Hy (gat_more HM2.out hxL)
        clear hrg hrg1 hg1 hs1 hm7 hg7 hlx hya hyx hxL
        go_wp2
        go_roundw
        case rel=>exact⟨_,cnt1,N3+1,M2++[x],HRG.out,by omega,HM3,HS7⟩
        case measure=>rw[HRG.out.left_eq,HLE2.out];exact hcl
     ·go_wp2_with (first|(rw[HW1.out])|(refine wpList_load_at rfl _ _ rfl _ rfl _ LD ?_))
      refine CLK.out.mono ?_
      rintro e w4 ⟨s,N2,L,rfl,hs3,hks,hN2,hld,hx4⟩
      have HS4:=Hy (HS3.out.ext hx4)
      have HLD:=Hy hld
      have hslt:=hks.lt
      have hMlt:=HS3.out.m.lt
      have hAlt:=HS3.out.a.lt
      have hPlt:=HS3.out.p.lt
      have hx4s:=hx4.size
      have h03:=HS3.out.x.size
      clear e3 l3' hld hr3 e1 l1'
      go_wp2_with (first
       | (at_range;refine wp_range_k _ rfl _ 191 rfl Tryz.underlying191 s N2 (L.map bs) rfl hks ?_;intro w5 cnt0 hrg0 hg0 hs0)
       | go_in)
      go_frame
      have hx5:Ext w4 w5:=grown_ext0 hg0
      have HS5:=Hy (HS4.out.ext hx5)
      have hc0:=hrg0.cnt_le
      clear hg0 hks
      go_loopw [9] (fun _ wr=>∃ (left:Str->Bool) (cnt N3:Nat) (M2:List ByteArray),RangeK wr s w4.heap.size N2 (L.map bs) left cnt∧N3+cnt<=N+1+N2∧Hid (∀ y,y∈M2↔(y∈M++[qn]∨(y∈L∧left (bs y)=false)))∧Hid (GtSt W0 w.heap.size #[.string pn,.int .i64 v1,.int .i64 v2,.int .i64 v3,.string va,.string pt,.slice A l1 c,.slice A2 l2 c2,.slice (some ⟨b,o,none⟩) n c3,.slice A4 l4 c4] bA n l w1.heap.size N3 M2 wr)) (fun _ wr=>wr.rangeLeft s w4.heap.size)
      case atStart=>exact⟨_,cnt0,N+1,M++[qn],hrg0,by omega,Hy (fun y=>gat_start y),HS5⟩
      case round =>
       clear hrg0
       obtain⟨left,cnt,N3,M2,hrg,hN3,HM2,HSr⟩:=hrel
       go_wp2_with (first
        | (at_next;refine wp_next_k _ rfl _ rfl s w4.heap.size N2 (L.map bs) left cnt rfl hrg ?_ ?_)
        | go_in)
       ·intro hl0
        have HG2:=Hy (show ∀ y:ByteArray,y∈M2↔GatK l (selC l ns) (k+1) y from fun y=>gat_done HM2.out hl0 HG.out HLD.out HGT2.out y)
        clear hl0 hrg
        go_wp2
        go_roundw
        case rel=>exact⟨k+1,M2,N3,by omega,by go_num,by rw[gtB_succ];omega,HG2,HSr⟩
        case measure=>simp[intOf];omega
       ·intro x cv w6 cnt1 hox hlx ya hya hyx hrg1 hcl hg1 hs1 hen
        have hxL:x∈L:=(show ya=x from by cases ya;cases x;cases hyx;rfl) ▸ hya
        have hxs:=HLK.out x ((HLD.out x).1 hxL)
        have HS6:=Hy (HSr.out.row hg1 (by omega) (by omega) (by omega) (by omega))
        obtain⟨w7,hr7,hm7,hg7⟩:=HS6.out.m.updB (t:=191) Tryz.underlying191 x (by omega) (by have:=gtB_le (k:=k) (by omega);omega)
        rw[show M2.map bs++[bs x]=(M2++[x]).map bs from by simp] at hm7
        have HS7:=Hy (HS6.out.upd hg7 hm7)
        have HRG:=Hy (hrg1.grown hg7 (by simp;omega) (by simp;omega))
        have HLE2:=Hy hrg.left_eq
        have HM3:=Hy (gat_more HM2.out hxL)
        clear hrg hrg1 hg1 hs1 hm7 hg7 hlx hya hyx hxL
        go_wp2
        go_roundw
        case rel=>exact⟨_,cnt1,N3+1,M2++[x],HRG.out,by omega,HM3,HS7⟩
        case measure=>rw[HRG.out.left_eq,HLE2.out];exact hcl
  ·obtain rfl:n=k:=by omega
   have HEQ2:=Hy (fun i=>HEQ.out M HG.out i)
   obtain⟨VV,hVV⟩:∃ VV:Nat->Bool,VV=fun i=>decide (bs (l.getD i zeroP).name∈M.map bs):=⟨_,rfl⟩
   have HVV:=Hy (show ∀ i,VV i=decide (bs (l.getD i zeroP).name∈M.map bs) from fun i=>by rw[hVV])
   have HFIN:=Hy (show markK l VV n=ML from by
    rw[<-HMD.out VV]
    exact HMC.out VV (fun i _=>by rw[HVV.out];exact HEQ2.out i))
   have e2:=HS.out.p.cell;have l2':=HS.out.p.lt
   clear HEQ HEQ2 HG HGS HGT hVV
   go_wp2
   clear e2 l2'
   go_loopw [10,49] (fun s i wr=>∃ k:Nat,k<=n∧i=.int .i64 k∧Hid (wr.ownsRow wo.heap.size 9 1 s (markK l VV k).length ((markK l VV k).map Value.string))∧Ext wo wr) (fun s i _=>n - (intOf i).toNat)
   case atStart=>exact⟨0,Nat.zero_le _,rfl,Hy (World.ownsRow_nil _ _ _ _),Ext.refl _⟩
   case round =>
    clear hk
    obtain⟨k,hk,rfl,HO,hxs⟩:=hrel
    obtain⟨ws,rfl⟩:∃ ws:World,ws=wr:=⟨_,rfl⟩
    have hxws:=hxw.trans hxs
    have hB:=hxs.size
    by_cases hlt:k < n
    ·have hk1:k < l.length:=by rw[HN.out];exact hlt
     obtain⟨b,o,rfl,hX⟩:=HR.out (fun e=>by rw[e] at hk1;exact absurd hk1 (Nat.not_lt_zero _))
     obtain⟨k0,n0,x0,A5,m5,c5,A6,c6,A7,c7,A8,c8,hrow⟩:=hX k hk1
     have LD:=load_Cm (hrow.ext hxws)
     have hnm:=HSN.out k hk1
     have HT:=Hy (HMS.out VV k hk1)
     have hml:=HML.out VV k
     have HVK:=Hy (show decide (bs l[k].name∈M.map bs)=VV k from by rw[HVV.out,HGN.out k hk1])
     clear hX hrow
     generalize l[k]=q at *
     obtain⟨qn,qt,qd,qa,qw,qe,qi,qs⟩:=q
     dsimp only[cmV] at *
     generalize qe.length=l6 at *
     generalize qi.length=l7 at *
     generalize qs.length=l8 at *
     generalize hMK:markK l VV k=MK at *
     have hxa:Ext ws (ws.alloc (.cells #[.string qn,.string qt,.bool qd,.bool qa,.int .i64 k0,.string n0,.string x0,.slice A5 m5 c5,.slice A6 l6 c6,.slice A7 l7 c7,.slice A8 l8 c8] 82)):=(Ext.refl ws).alloc _
     have hlook:=(HS.out.m.ext (hxs.trans hxa)).look (t:=191) Tryz.underlying191 qn (by omega)
     rw[HVK.out] at hlook
     have bc:=Blk.new ws 82 #[.string qn,.string qt,.bool qd,.bool qa,.int .i64 k0,.string n0,.string x0,.slice A5 m5 c5,.slice A6 l6 c6,.slice A7 l7 c7,.slice A8 l8 c8]
     have e1:=bc.cell;have l1':=bc.lt
     cases hV:VV k with
     | false =>
       rw[hV] at hlook
       have HO2:=Hy (show (ws.alloc (.cells #[.string qn,.string qt,.bool qd,.bool qa,.int .i64 k0,.string n0,.string x0,.slice A5 m5 c5,.slice A6 l6 c6,.slice A7 l7 c7,.slice A8 l8 c8] 82)).ownsRow wo.heap.size 9 1 _ (markK l VV (k+1)).length ((markK l VV (k+1)).map Value.string) from by
        rw[HT.out,hV]
        simpa using own_ext HO.out hxa)
       go_wp2_with (refine wpList_load_at rfl _ _ rfl _ rfl _ LD ?_)
       go_roundw
       case rel=>exact⟨k+1,by omega,by go_num,HO2,hxs.trans hxa⟩
       case measure=>simp[intOf];omega
     | true =>
       rw[hV] at hlook
       have hown1:=own_ext HO.out hxa
       have hB1:wo.heap.size<=(ws.alloc (.cells #[.string qn,.string qt,.bool qd,.bool qa,.int .i64 k0,.string n0,.string x0,.slice A5 m5 c5,.slice A6 l6 c6,.slice A7 l7 c7,.slice A8 l8 c8] 82)).heap.size:=Nat.le_trans hB hxa.size
       go_wp2_with (first|(refine wpList_load_at rfl _ _ rfl _ rfl _ LD ?_)|(at_builtin;refine wpList_app1g _ _ _ rfl _ _ 77 rfl (.string ⟨#[]⟩) 1 16 Tryz.underlying77 info_string rfl (by decide) (by decide) wo.heap.size _ MK.length _ rfl hown1 _ _ rfl (by simp) rfl (by simp[Value.oneCell']) (by omega) hB1 ?_;intro v' w' hown' hgrow hblk))
       have HO2:=Hy (show w'.ownsRow wo.heap.size 9 1 v' (markK l VV (k+1)).length ((markK l VV (k+1)).map Value.string) from by
        rw[HT.out,hV]
        simpa using hown')
       go_roundw
       case rel=>exact⟨k+1,by omega,by go_num,HO2,hgrow _ (hxs.trans hxa) (Nat.le_refl _)⟩
       case measure=>simp[intOf];omega
    ·obtain rfl:n=k:=by omega
     have hf:=HO.out
     rw[HFIN.out] at hf
     have HF2:=Hy hf
     have hzz:=hxw.size
     clear hf
     go_wp2
     go_ret
     exact⟨_,_,rfl,hzz,HF2.out,hxws⟩
end Go.Proofs.YtmpccllnpcbgcaaGreatDoor
