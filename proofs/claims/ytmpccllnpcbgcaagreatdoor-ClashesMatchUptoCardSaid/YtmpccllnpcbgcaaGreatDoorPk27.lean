/- Contract of pack.reach. Contract of pack.webFault. Services and their files, in plain words; the state of pack.servicesFault. -/
import Derived.Test.YtmpccllnpcbgcaaGreatDoorPk25
namespace Go.Proofs.YtmpccllnpcbgcaaGreatDoor
section
open Go.RowKit
theorem cmLeft_le (l:List Cmp) (V:Nat->Bool) (h:∀ c∈l,c.needs.length<=2097152):cmLeft l V<=l.length * 2097152:=by
 unfold cmLeft
 have:∀ n,n<=l.length->((List.range n).map fun i=>if V i=true then 0 else (l.getD i zeroP).needs.length).sum<=n * 2097152:=fun n=>by
  induction n with
  | zero=>intro _;simp
  | succ n ih =>
    intro hn
    have:=ih (by omega)
    rw[List.range_succ,List.map_append,List.sum_append]
    simp only[List.map_cons,List.map_nil,List.sum_cons,List.sum_nil,Nat.add_zero]
    have hz:(if V n=true then 0 else (l.getD n zeroP).needs.length)<=2097152:=by
     split
     ·omega
     ·have e:l.getD n zeroP=l[n]:=by simp[List.getD,List.getElem?_eq_getElem (show n < l.length by omega)]
      rw[e]
      exact h _ (List.getElem_mem _)
    omega
 exact this _ (Nat.le_refl _)
set_option maxHeartbeats 16000000 in
set_option maxRecDepth 100000 in
theorem reach_any (p:Pkg) (A:Option Addr) (c:Nat) (A2:Option Addr) (c2:Nat) (A3:Option Addr) (c3:Nat) (A4:Option Addr) (c4:Nat) (ns:List ByteArray) (An:Option Addr) (nn cn:Nat) (w:World) (hr:RdC w A3 p.comps) (h30:p.comps.length<=30) (hnl:∀ c∈p.comps,c.needs.length<=2097152) (hnd:(p.comps.map Cmp.name).Nodup)
 (hnn:ns.length=nn) (hrn:RdX w An ns) (hln:nn<=2097152) :
 Calls Tryz.prog 132 #[pkV p A c A2 c2 A3 c3 A4 c4,.slice An nn cn] w fun e w'=>∃ g,e=.returned (.slice (some ⟨g,0,none⟩) p.comps.length p.comps.length)∧w.heap.size<=g∧Blk w' g 4 (boolsA p.comps.length fun i=>hasB p.comps ns (p.comps.getD i zeroP).name)∧Ext w w':=by
 have HR:=Hy hr
 have HND:=Hy hnd
 have HNL:=Hy hnl
 have HBF:=Hy (Bfs.init (l:=p.comps) (ns:=ns))
 have HCL:=Hy (Nat.le_trans (cmLeft_le p.comps (fun _=>false) hnl) (Nat.mul_le_mul_right _ h30))
 have HCA:=Hy (cmpAt_cases p.comps)
 clear hr hnd hnl
 obtain⟨pn,⟨v1,v2,v3,va⟩,pt,pe,pb,l,pm⟩:=p
 dsimp only[pkV] at *
 generalize pe.length=l1 at *
 generalize pb.length=l2 at *
 generalize pm.length=l4 at *
 generalize hn:l.length=n at h30 HCL ⊢
 have HN:=Hy hn
 have b0:=Blk.new w 76 #[.string pn,.int .i64 v1,.int .i64 v2,.int .i64 v3,.string va,.string pt,.slice A l1 c,.slice A2 l2 c2,.slice A3 n c3,.slice A4 l4 c4]
 have hx0:Ext w (w.alloc (.cells #[.string pn,.int .i64 v1,.int .i64 v2,.int .i64 v3,.string va,.string pt,.slice A l1 c,.slice A2 l2 c2,.slice A3 n c3,.slice A4 l4 c4] 76)):=(Ext.refl w).alloc _
 have hs0:(w.alloc (.cells #[.string pn,.int .i64 v1,.int .i64 v2,.int .i64 v3,.string va,.string pt,.slice A l1 c,.slice A2 l2 c2,.slice A3 n c3,.slice A4 l4 c4] 76)).heap.size=w.heap.size+1:=World.size_alloc _ _
 generalize hW0:w.alloc (.cells #[.string pn,.int .i64 v1,.int .i64 v2,.int .i64 v3,.string va,.string pt,.slice A l1 c,.slice A2 l2 c2,.slice A3 n c3,.slice A4 l4 c4] 76)=W0 at *
 have hmk:=make_bools n (by omega)
 have b1:=Blk.new W0 4 (boolsA n fun _=>false)
 have hx1:Ext W0 (W0.alloc (.cells (boolsA n fun _=>false) 4)):=(Ext.refl W0).alloc _
 have hs1:(W0.alloc (.cells (boolsA n fun _=>false) 4)).heap.size=W0.heap.size+1:=World.size_alloc _ _
 rw[hs0] at hs1 b1
 have b0':=b0.ext hx1
 have e0:=b0.cell
 generalize hW1:W0.alloc (.cells (boolsA n fun _=>false) 4)=W1 at *
 have hx01:=hx0.trans hx1
 have CC:=Hy (CloneX_any ns An nn cn W1 hnn (hrn.ext hx01) hln)
 have HW0:=Hy hW0
 have HW1:=Hy hW1
 have HNN:=Hy hnn
 clear hW0 hW1 hn hnn hrn
 go_enter Tryz.func132,Tryz.ntmps132
 go_wp2_with fail
 rw[HW0.out,HW1.out]
 refine CC.out.mono ?_
 rintro e w2 ⟨v,rfl,hown,hx2⟩
 rw[hs1] at hown
 have hQ0:=Hy (QX.of_own (B:=w.heap.size+2) hown HNN.out)
 have b0a:=Hy (b0'.ext hx2)
 have b1a:=Hy (b1.ext hx2)
 have hx02:=hx01.trans hx2
 have hs2:=hx2.size
 rw[hs1] at hs2
 have hclen:=HCL.out
 clear hown b0 b1 b0' e0 hmk
 go_wp2
 go_loopg [6] 70000000 (fun g sv wr=>∃ (V:Nat->Bool) (L:List ByteArray),L.length+cmLeft l V<=g∧g<=70000000∧Hid (QX wr (w.heap.size+2) sv L)∧Hid (Bfs l ns V L)∧Hid (Blk wr w.heap.size 76 #[.string pn,.int .i64 v1,.int .i64 v2,.int .i64 v3,.string va,.string pt,.slice A l1 c,.slice A2 l2 c2,.slice A3 n c3,.slice A4 l4 c4])∧Hid (Blk wr (w.heap.size+1) 4 (boolsA n V))∧Ext w wr∧w.heap.size+2<=wr.heap.size)
 case atStart=>exact⟨fun _=>false,ns,by rw[HNN.out];omega,Nat.le_refl _,hQ0,HBF,b0a,b1a,hx02,by omega⟩
 case round =>
  obtain⟨V,L,hg,hg7,HQ,HB,B0,B1,hxr,hsz⟩:=hrel
  obtain⟨wo,rfl⟩:∃ wo:World,wo=wr:=⟨_,rfl⟩
  have e0:=B0.out.cell;have l0:=B0.out.lt
  cases L with
  | nil =>
    obtain⟨A',c',rfl,_⟩:=HQ.out.form
    have HE:=Hy (show boolsA n V=boolsA n fun i=>hasB l ns (l.getD i zeroP).name from by
     unfold boolsA
     congr 1
     refine List.map_congr_left fun i hi=>?_
     have hi:i < l.length:=by rw[HN.out];exact List.mem_range.1 hi
     rw[HB.out.done HND.out hi]
     simp[List.getD,List.getElem?_eq_getElem hi])
    go_wp2
    go_ret
    exact⟨w.heap.size+1,rfl,by omega,by rw[<-HE.out];exact B1.out,hxr⟩
  | cons x L =>
    obtain⟨gq,off,cap,rfl,hgB,hx,hc1,hc2,hq1,hq2⟩:=HQ.out.pop
    have hgl:=lt_of_cell hx
    have CA:=Hy (fun W (h:Ext wo W)=>at_any #[.string pn,.int .i64 v1,.int .i64 v2,.int .i64 v3,.string va,.string pt,.slice A l1 c,.slice A2 l2 c2,.slice A3 n c3,.slice A4 l4 c4] l A3 n c3 x W rfl rfl HN.out (HR.out.ext (hxr.trans h)) (by omega))
    have HQ1:=Hy hq1
    have HQ2:=Hy hq2
    have HCX:=Hy (HCA.out x)
    rw[List.length_cons] at hg
    clear hq1 hq2
    generalize hll:L.length=ll at *
    have HLL:=Hy hll
    clear hll
    have hlp:(0:Int) < ((ll+1:Nat):Int):=by omega
    go_wp2
    refine wp_region_ext (by kernel_rfl) (by kernel_rfl) ?_
    repeat (first|go_big_quiet_skip|(refine wpQuiet_step (fun K hK=>?_);go_simp;first|(refine hK _ ?_;clear hK K)|(apply Exists.intro;refine⟨fun wq hwq=>?_,hK _ ?_⟩;(obtain⟨hqc,hqf⟩:=hwq.cells;have hqs:=hwq.size;(try go_simp);first|rfl|((first|rw[if_neg (by omega)]|rw[if_pos (by omega)]);(try go_simp);rfl)|((go_at_call 117;exact (CA.out _ hwq).mono (fun e w'' h=>⟨h.1,hwq.trans h.2⟩))));clear hK K)))
    refine wpQuiet_nil ?_
    intro wN hxN
    obtain⟨hcN,hfN⟩:=hxN.cells
    have hsN:=hxN.size
    have HQ1:=Hy (HQ1.out.ext hxN)
    have HQ2:=Hy (fun h=>(HQ2.out h).ext hxN)
    have B0:=Hy (B0.out.ext hxN)
    have B1:=Hy (B1.out.ext hxN)
    have hxwN:=hxr.trans hxN
    have hszN:=hxN.size
    have HS2:∃ v2:Value,Hid (QRow wN (w.heap.size+2) 1 v2 ll (L.map Value.string)):=⟨_,HQ1⟩
    clear e0 l0 hx HS2
    have e0:=B0.out.cell;have l0:=B0.out.lt
    have SK:=Hy (fun (h:Marked l V x∨isComp l x=false)=>HB.out.skip h)
    by_cases hcap:cap=1
    ·have HT:=Hy (HQ2.out hcap)
     subst hcap
     obtain rfl:ll=0:=by omega
     rcases HCX.out with ⟨k,hk,hck,hkn⟩|⟨hck,hno⟩
     ·have hk1:k < n:=by rw[<-HN.out];exact hk
      have hcv:wN.cell? ⟨w.heap.size+1,k,none⟩=some (.bool (V k)):=(B1.out.cell k).trans (boolsA_get hk1)
      have hcl:=B1.out.lt
      have hk0:decide ((k:Int) < 0)=false:=decide_eq_false (by omega)
      rw[hck]
      clear hck
      cases hV:V k with
      | true =>
        rw[hV] at hcv
        have H1:=Hy (SK.out (.inl ⟨k,hk,hV,hkn⟩))
        clear hV hkn
        go_wp2
        go_roundg (0+cmLeft l V)
        case rel=>exact⟨V,L,by have:=HLL.out;omega,by omega,Hy (.inr (by rw[HLL.out];exact HT.out)),H1,B0,B1,hxwN,by omega⟩
        case measure=>omega
      | false =>
        rw[hV] at hcv
        have HM:=Hy (HB.out.mark HND.out hk hkn)
        have hcm:=cmLeft_mark hk hV
        have hxM:Ext w (wN.setCell ⟨w.heap.size+1,k,none⟩ (.bool true)):=hxwN.setCell (by show w.heap.size<=w.heap.size+1;omega) _
        have B0M:Blk (wN.setCell ⟨w.heap.size+1,k,none⟩ (.bool true)) w.heap.size 76 #[.string pn,.int .i64 v1,.int .i64 v2,.int .i64 v3,.string va,.string pt,.slice A l1 c,.slice A2 l2 c2,.slice A3 n c3,.slice A4 l4 c4]:=B0.out.far (by show w.heap.size≠w.heap.size+1;omega) _
        have B1M:Blk (wN.setCell ⟨w.heap.size+1,k,none⟩ (.bool true)) (w.heap.size+1) 4 (boolsA n fun i=>if i=k then true else V i):=by
         have h:=B1.out.set k (.bool true)
         rwa [boolsA_set] at h
        have HTM:=HT.out.kept (growM_cell wN (w.heap.size+1) k (.bool true)) (by
         obtain⟨g9,off9,cap9,e9,h9,_⟩:=HT.out.slice
         rw[e9]
         simp only[Value.ownBlock,ne_eq,Option.some.injEq]
         omega)
        have hfz:=B1.out.free k
        obtain⟨b,o,rfl,hX⟩:=(HR.out.ext hxM) (fun e=>by rw[e] at hk;exact absurd hk (Nat.not_lt_zero _))
        obtain⟨k0,n0,x0,A5,m5,c5,A6,c6,A7,c7,A8,c8,hrow⟩:=hX k hk
        have r8:=hrow.r8
        have hned:=hrow.has.needs
        have hnl6:=HNL.out _ (List.getElem_mem hk)
        have e0M:=B0M.cell;have l0M:=B0M.lt
        have rlt:=lt_of_cell r8
        clear hX hrow hV hkn e0 l0
        generalize hqe:l[k].needs=qe at *
        generalize h6:qe.length=l6 at *
        have H6:=Hy h6
        clear h6 hqe
        have hsum:0+l6<=100000000:=by omega
        have hbs:w.heap.size+2<=(wN.setCell ⟨w.heap.size+1,k,none⟩ (.bool true)).heap.size:=by have:=B1M.lt;omega
        go_wp2_with (at_builtin;refine wpList_appQX _ rfl _ _ rfl (w.heap.size+2) _ 0 L rfl HTM A6 l6 c6 qe rfl H6.out hned hsum hbs ?_;intro v' w' hq' hgrow hblk)
        go_roundg (0+l6+cmLeft l (fun i=>if i=k then true else V i))
        case rel =>
         have h1:=hblk _ _ _ (by omega) B1M
         have h1l:=h1.lt
         exact⟨fun i=>if i=k then true else V i,L++qe,by rw[List.length_append];have:=HLL.out;have:=H6.out;omega,by omega,Hy (.inr (by rw[List.length_append,HLL.out,H6.out];exact hq')),HM,Hy (hblk _ _ _ (by omega) B0M),Hy h1,hgrow _ hxM (by omega),by omega⟩
        case measure=>omega
     ·have H1:=Hy (SK.out (.inr hno))
      rw[hck]
      clear hno hck
      go_wp2
      go_roundg (0+cmLeft l V)
      case rel=>exact⟨V,L,by have:=HLL.out;omega,by omega,Hy (.inr (by rw[HLL.out];exact HT.out)),H1,B0,B1,hxwN,by omega⟩
      case measure=>omega
    ·have HT:=HQ1
     rcases HCX.out with ⟨k,hk,hck,hkn⟩|⟨hck,hno⟩
     ·have hk1:k < n:=by rw[<-HN.out];exact hk
      have hcv:wN.cell? ⟨w.heap.size+1,k,none⟩=some (.bool (V k)):=(B1.out.cell k).trans (boolsA_get hk1)
      have hcl:=B1.out.lt
      have hk0:decide ((k:Int) < 0)=false:=decide_eq_false (by omega)
      rw[hck]
      clear hck
      cases hV:V k with
      | true =>
        rw[hV] at hcv
        have H1:=Hy (SK.out (.inl ⟨k,hk,hV,hkn⟩))
        clear hV hkn
        go_wp2
        go_roundg (ll+cmLeft l V)
        case rel=>exact⟨V,L,by have:=HLL.out;omega,by omega,Hy (.inr (by rw[HLL.out];exact HT.out)),H1,B0,B1,hxwN,by omega⟩
        case measure=>omega
      | false =>
        rw[hV] at hcv
        have HM:=Hy (HB.out.mark HND.out hk hkn)
        have hcm:=cmLeft_mark hk hV
        have hxM:Ext w (wN.setCell ⟨w.heap.size+1,k,none⟩ (.bool true)):=hxwN.setCell (by show w.heap.size<=w.heap.size+1;omega) _
        have B0M:Blk (wN.setCell ⟨w.heap.size+1,k,none⟩ (.bool true)) w.heap.size 76 #[.string pn,.int .i64 v1,.int .i64 v2,.int .i64 v3,.string va,.string pt,.slice A l1 c,.slice A2 l2 c2,.slice A3 n c3,.slice A4 l4 c4]:=B0.out.far (by show w.heap.size≠w.heap.size+1;omega) _
        have B1M:Blk (wN.setCell ⟨w.heap.size+1,k,none⟩ (.bool true)) (w.heap.size+1) 4 (boolsA n fun i=>if i=k then true else V i):=by
         have h:=B1.out.set k (.bool true)
         rwa [boolsA_set] at h
        have HTM:=HT.out.kept (growM_cell wN (w.heap.size+1) k (.bool true)) (by
         obtain⟨g9,off9,cap9,e9,h9,_⟩:=HT.out.slice
         rw[e9]
         simp only[Value.ownBlock,ne_eq,Option.some.injEq]
         omega)
        have hfz:=B1.out.free k
        obtain⟨b,o,rfl,hX⟩:=(HR.out.ext hxM) (fun e=>by rw[e] at hk;exact absurd hk (Nat.not_lt_zero _))
        obtain⟨k0,n0,x0,A5,m5,c5,A6,c6,A7,c7,A8,c8,hrow⟩:=hX k hk
        have r8:=hrow.r8
        have hned:=hrow.has.needs
        have hnl6:=HNL.out _ (List.getElem_mem hk)
        have e0M:=B0M.cell;have l0M:=B0M.lt
        have rlt:=lt_of_cell r8
        clear hX hrow hV hkn e0 l0
        generalize hqe:l[k].needs=qe at *
        generalize h6:qe.length=l6 at *
        have H6:=Hy h6
        clear h6 hqe
        have hsum:ll+l6<=100000000:=by omega
        have hbs:w.heap.size+2<=(wN.setCell ⟨w.heap.size+1,k,none⟩ (.bool true)).heap.size:=by have:=B1M.lt;omega
        go_wp2_with (at_builtin;refine wpList_appQX _ rfl _ _ rfl (w.heap.size+2) _ ll L rfl HTM A6 l6 c6 qe rfl H6.out hned hsum hbs ?_;intro v' w' hq' hgrow hblk)
        go_roundg (ll+l6+cmLeft l (fun i=>if i=k then true else V i))
        case rel =>
         have h1:=hblk _ _ _ (by omega) B1M
         have h1l:=h1.lt
         exact⟨fun i=>if i=k then true else V i,L++qe,by rw[List.length_append];have:=HLL.out;have:=H6.out;omega,by omega,Hy (.inr (by rw[List.length_append,HLL.out,H6.out];exact hq')),HM,Hy (hblk _ _ _ (by omega) B0M),Hy h1,hgrow _ hxM (by omega),by omega⟩
        case measure=>omega
     ·have H1:=Hy (SK.out (.inr hno))
      rw[hck]
      clear hno hck
      go_wp2
      go_roundg (ll+cmLeft l V)
      case rel=>exact⟨V,L,by have:=HLL.out;omega,by omega,Hy (.inr (by rw[HLL.out];exact HT.out)),H1,B0,B1,hxwN,by omega⟩
      case measure=>omega
end
section
open Go.RowKit
theorem leadsB_at {l:List Cmp} (hnd:(l.map Cmp.name).Nodup) {k:Nat} (hk:k < l.length) (b:ByteArray):leadsB l l[k].name b=hasB l l[k].needs b:=by
 rw[Bool.eq_iff_iff,leadsB_iff,hasB_iff,leads_needs,needsOf_at hk hnd]
theorem getD_cm {l:List Cmp} {k:Nat} (hk:k < l.length):l.getD k zeroP=l[k]:=by simp[List.getD,List.getElem?_eq_getElem hk]
theorem webAt_eq {l:List Cmp} (hnd:(l.map Cmp.name).Nodup) {k:Nat} (hk:k < l.length) :
 webAt l k=if (l[k].needs.any fun x=>!isComp l x)=true then 10 else if hasB l l[k].needs (l.getD k zeroP).name=true then 13 else 0:=by
 unfold webAt
 rw[getD_cm hk,leadsB_at hnd hk,List.all_eq_not_any_not]
 cases (l[k].needs.any fun x=>!isComp l x)<;>rfl
set_option maxHeartbeats 8000000 in
set_option maxRecDepth 100000 in
theorem webFault_any (p:Pkg) (A:Option Addr) (c:Nat) (A2:Option Addr) (c2:Nat) (A3:Option Addr) (c3:Nat) (A4:Option Addr) (c4:Nat) (w:World) (hr:RdC w A3 p.comps) (h30:p.comps.length<=30) (hnl:∀ c∈p.comps,c.needs.length<=2097152) (hnd:(p.comps.map Cmp.name).Nodup) :
 Calls Tryz.prog 121 #[pkV p A c A2 c2 A3 c3 A4 c4] w fun e w'=>e=.returned (.int .i64 (firstN p.comps.length (webAt p.comps)))∧Ext w w':=by
 have HR:=Hy hr
 have HRE:=Hy (fun W (h:Ext w W) ns An nn cn (hnn:ns.length=nn) (hrn:RdX W An ns) (hln:nn<=2097152)=>reach_any p A c A2 c2 A3 c3 A4 c4 ns An nn cn W (hr.ext h) h30 hnl hnd hnn hrn hln)
 have HWC:=Hy (fun W (h:Ext w W) nm hb=>webC_any p A c A2 c2 A3 c3 A4 c4 w.heap.size nm W (by omega) (hr.ext h) hb)
 have HAT:=Hy (fun k (hk:k < p.comps.length)=>webAt_eq hnd hk)
 have HNL:=Hy hnl
 have HBAD:=Hy (fun k=>firstN_at (n:=p.comps.length) (f:=webAt p.comps) (k:=k))
 have HZ:=Hy (firstN_zero (n:=p.comps.length) (f:=webAt p.comps))
 obtain⟨E,hE⟩:∃ E,E=firstN p.comps.length (webAt p.comps):=⟨_,rfl⟩
 rw[<-hE] at HBAD HZ ⊢
 clear hr hnl hnd hE
 obtain⟨pn,⟨v1,v2,v3,va⟩,pt,pe,pb,l,pm⟩:=p
 dsimp only[pkV] at *
 generalize pe.length=l1 at *
 generalize pb.length=l2 at *
 generalize pm.length=l4 at *
 generalize hn:l.length=n at h30 HRE HWC HBAD HZ ⊢
 have HN:=Hy hn
 clear hn
 have b0:=Blk.new w 76 #[.string pn,.int .i64 v1,.int .i64 v2,.int .i64 v3,.string va,.string pt,.slice A l1 c,.slice A2 l2 c2,.slice A3 n c3,.slice A4 l4 c4]
 have hx0:Ext w (w.alloc (.cells #[.string pn,.int .i64 v1,.int .i64 v2,.int .i64 v3,.string va,.string pt,.slice A l1 c,.slice A2 l2 c2,.slice A3 n c3,.slice A4 l4 c4] 76)):=(Ext.refl w).alloc _
 generalize hW0:w.alloc (.cells #[.string pn,.int .i64 v1,.int .i64 v2,.int .i64 v3,.string va,.string pt,.slice A l1 c,.slice A2 l2 c2,.slice A3 n c3,.slice A4 l4 c4] 76)=W0 at *
 have HW0:=Hy hW0
 have e0:=b0.cell
 clear hW0
 go_enter Tryz.func121,Tryz.ntmps121
 go_wp2
 rw[HW0.out]
 go_loopw [8] (fun i wr=>∃ k:Nat,k<=n∧i=.int .i64 k∧Hid (∀ j,j < k->webAt l j=0)∧Ext W0 wr) (fun i _=>n - (intOf i).toNat)
 case atStart=>exact⟨0,Nat.zero_le _,rfl,fun j h=>absurd h (Nat.not_lt_zero _),Ext.refl _⟩
 case round =>
  obtain⟨k,hk,rfl,H0,hxr0⟩:=hrel
  obtain⟨wo,rfl⟩:∃ wo:World,wo=wr:=⟨_,rfl⟩
  have hxr:=hx0.trans hxr0
  have b2:=b0.ext hxr0
  clear e0
  by_cases hlt:k < n
  ·have hk1:k < l.length:=by rw[HN.out];exact hlt
   obtain⟨b,o,rfl,hX⟩:=(HR.out.ext hxr) (fun e=>by rw[e] at hk1;exact absurd hk1 (Nat.not_lt_zero _))
   obtain⟨k0,n0,x0,A5,m5,c5,A6,c6,A7,c7,A8,c8,hrow⟩:=hX k hk1
   have LD:=load_Cm hrow
   have HIN:=Hy hrow.has.needs
   have hnl6:=HNL.out _ (List.getElem_mem hk1)
   have HV:=Hy (HAT.out k hk1)
   have HBD:=Hy (HBAD.out k hlt H0.out)
   have HNX:=Hy (show webAt l k=0->∀ j,j < k+1->webAt l j=0 from firstN_next H0.out)
   have CF:=Hy (fun W (h:Ext wo W)=>ContainsFuncX_any l[k].needs A6 l[k].needs.length c6 209 #[.pointer (some ⟨w.heap.size,0,none⟩)] (fun x=>!isComp l x) W rfl (HIN.out.ext h) hnl6 (fun _ _=>rfl) (fun x hx W' hW'=>HWC.out W' (hxr.trans (h.trans hW')) x (b2.ext (h.trans hW'))))
   have CR:=Hy (fun W (h:Ext wo W)=>HRE.out W (hxr.trans h) l[k].needs A6 l[k].needs.length c6 rfl (HIN.out.ext h) hnl6)
   clear hX hrow HIN HAT
   generalize webAt l k=Z at *
   generalize (l[k].needs.any fun x=>!isComp l x)=AN at *
   generalize l[k]=q at *
   obtain⟨qn,qt,qd,qa,qw,qe,qi,qs⟩:=q
   dsimp only[cmV] at *
   generalize qe.length=l6 at *
   generalize qi.length=l7 at *
   generalize qs.length=l8 at *
   have b1:=Blk.new wo 82 #[.string qn,.string qt,.bool qd,.bool qa,.int .i64 k0,.string n0,.string x0,.slice A5 m5 c5,.slice A6 l6 c6,.slice A7 l7 c7,.slice A8 l8 c8]
   have hxa:Ext wo (wo.alloc (.cells #[.string qn,.string qt,.bool qd,.bool qa,.int .i64 k0,.string n0,.string x0,.slice A5 m5 c5,.slice A6 l6 c6,.slice A7 l7 c7,.slice A8 l8 c8] 82)):=(Ext.refl wo).alloc _
   have b2a:=b2.ext hxa
   generalize hW1:wo.alloc (.cells #[.string qn,.string qt,.bool qd,.bool qa,.int .i64 k0,.string n0,.string x0,.slice A5 m5 c5,.slice A6 l6 c6,.slice A7 l7 c7,.slice A8 l8 c8] 82)=W1 at *
   have HW1:=Hy hW1
   clear hW1
   have e1:=b1.cell;have l1':=b1.lt;have e2:=b2.cell
   go_wp2_with (refine wpList_load_at rfl _ _ rfl _ rfl _ LD ?_)
   rw[HW1.out]
   refine (CF.out _ hxa).mono ?_
   rintro e w2 ⟨rfl,hx2⟩
   clear LD e2
   have hx02:=hxa.trans hx2
   have e3:=(b1.ext hx2).cell;have l3':=(b1.ext hx2).lt
   have e4:=(b2a.ext hx2).cell;have l4':=(b2a.ext hx2).lt
   clear e1 l1'
   cases AN
   rotate_left
   ·have HEE:=Hy (show E=10 from by rw[HBD.out (by rw[HV.out,if_pos rfl];decide),HV.out];rfl)
    go_wp2
    go_ret
    exact⟨ret_int HEE.out.symm,hxr.trans hx02⟩
   go_wp2_with fail
   refine (CR.out _ hx02).mono ?_
   rintro e w3 ⟨g,rfl,hgl,hB,hx3⟩
   have hcv:=(hB.cell k).trans (boolsA_get hlt)
   have hgl2:=hB.lt
   clear hB
   generalize hasB l qe (l.getD k zeroP).name=HB at *
   cases HB
   rotate_left
   ·have HEE:=Hy (show E=13 from by rw[HBD.out (by rw[HV.out];decide),HV.out];rfl)
    go_wp2
    go_ret
    exact⟨ret_int HEE.out.symm,hxr.trans (hx02.trans hx3)⟩
   have HO:=Hy (HNX.out (by rw[HV.out];rfl))
   go_wp2
   go_roundw
   case rel=>exact⟨k+1,by omega,by go_num,HO.out,hxr0.trans (hx02.trans hx3)⟩
   case measure=>simp[intOf];omega
  ·obtain rfl:k=n:=by omega
   have HM:=Hy (HZ.out H0.out)
   go_wp2
   go_ret
   exact⟨ret_int HM.out.symm,hxr⟩
end
section
open Go.RowKit
def filesIn (xs:List Itm):List Str:=(xs.filter fun y=>decide (spotK y=1)).map fun y=>bs y.path
def filesL (l:List Cmp) (V:Nat->Bool) (k:Nat):List Str:=(List.range k).flatMap fun i=>if V i=true then filesIn (l.getD i zeroP).items else []
theorem filesL_succ {l:List Cmp} {V:Nat->Bool} {k:Nat} (hk:k < l.length):filesL l V (k+1)=filesL l V k++if V k=true then filesIn l[k].items else []:=by
 unfold filesL
 rw[List.range_succ,List.flatMap_append,<-getD_cm hk]
 simp
theorem filesIn_succ {xs:List Itm} {j:Nat} (hj:j < xs.length):filesIn (xs.take (j+1))=filesIn (xs.take j)++if spotK xs[j]=1 then [bs xs[j].path] else []:=by
 unfold filesIn
 rw[List.take_succ_eq_append_getElem hj,List.filter_append,List.map_append]
 by_cases h:spotK xs[j]=1<;>simp[h]
theorem filesIn_mem {xs:List Itm} {p:ByteArray}:bs p∈filesIn xs↔(xs.any fun y=>decide (spotK y=1)&&decide (y.path=p))=true:=by
 unfold filesIn
 rw[List.mem_map,List.any_eq_true]
 constructor
 ·rintro ⟨y,hy,e⟩
  obtain⟨h1,h2⟩:=List.mem_filter.1 hy
  exact⟨y,h1,by rw[h2,bs_inj e];simp⟩
 ·rintro ⟨y,hy,e⟩
  rw[Bool.and_eq_true,decide_eq_true_eq,decide_eq_true_eq] at e
  exact⟨y,List.mem_filter.2 ⟨hy,by simp[e.1]⟩,by rw[e.2]⟩
theorem filesL_mem {l:List Cmp} {V:Nat->Bool} {f:Cmp->Bool} (h:∀ i (hi:i < l.length),V i=f l[i]) (p:ByteArray):decide (bs p∈filesL l V l.length)=hasFile l f p:=by
 rw[Bool.eq_iff_iff,decide_eq_true_eq]
 unfold filesL hasFile
 rw[List.mem_flatMap,List.any_eq_true]
 constructor
 ·rintro ⟨i,hi,hm⟩
  have hi:i < l.length:=List.mem_range.1 hi
  rw[getD_cm hi,h i hi] at hm
  by_cases hf:f l[i]=true
  ·rw[if_pos hf] at hm
   exact⟨l[i],List.getElem_mem hi,by rw[hf,filesIn_mem.1 hm];rfl⟩
  ·rw[if_neg hf] at hm;cases hm
 ·rintro ⟨d,hd,hm⟩
  obtain⟨i,hi,rfl⟩:=List.mem_iff_getElem.1 hd
  rw[Bool.and_eq_true] at hm
  exact⟨i,List.mem_range.2 hi,by rw[getD_cm hi,h i hi,if_pos hm.1];exact filesIn_mem.2 hm.2⟩
noncomputable def selfV (l:List Cmp) (k:Nat):Nat->Bool:=fun i=>if i=k then true else hasB l (l.getD k zeroP).needs (l.getD i zeroP).name
theorem selfV_at {l:List Cmp} (hnd:(l.map Cmp.name).Nodup) {k:Nat} (hk:k < l.length) {i:Nat} (hi:i < l.length):selfV l k i=(decide (l[i].name=l[k].name)||leadsB l l[k].name l[i].name):=by
 unfold selfV
 rw[getD_cm hk,getD_cm hi,leadsB_at hnd hk]
 by_cases e:i=k
 ·subst e;simp
 ·rw[if_neg e,decide_eq_false (fun h=>e (name_inj hi hk hnd h))]
  rfl
def svcOk (l:List Cmp) (V:Nat->Bool) (x:Itm):Bool:=!decide (x.kind=6)||decide (bs x.sp∈filesL l V l.length)
theorem svcAt_eq {l:List Cmp} (hnd:(l.map Cmp.name).Nodup) {k:Nat} (hk:k < l.length):svcAt l k=if l[k].items.all (svcOk l (selfV l k))=true then 0 else 10:=by
 unfold svcAt svcOk
 rw[getD_cm hk]
 have e:∀ x:Itm,decide (bs x.sp∈filesL l (selfV l k) l.length)=hasFile l (fun d=>decide (d.name=l[k].name)||leadsB l l[k].name d.name) x.sp:=fun x=>filesL_mem (fun i hi=>selfV_at hnd hk hi) x.sp
 simp only[e]
theorem svc_bad {l:List Cmp} (hnd:(l.map Cmp.name).Nodup) {k:Nat} (hk:k < l.length) {j:Nat} (hj:j < l[k].items.length) (h:svcOk l (selfV l k) l[k].items[j]=false):svcAt l k=10:=by
 rw[svcAt_eq hnd hk,if_neg]
 rw[Bool.not_eq_true,List.all_eq_false]
 exact⟨_,List.getElem_mem hj,by rw[h];decide⟩
theorem svc_good {l:List Cmp} (hnd:(l.map Cmp.name).Nodup) {k:Nat} (hk:k < l.length) (h:∀ j (hj:j < l[k].items.length),svcOk l (selfV l k) l[k].items[j]=true):svcAt l k=0:=by
 rw[svcAt_eq hnd hk,if_pos]
 rw[List.all_eq_true]
 intro x hx
 obtain⟨j,hj,rfl⟩:=List.mem_iff_getElem.1 hx
 exact h j hj
theorem bools_self (l:List Cmp) (n k:Nat) (hk:k < l.length) (V:Nat->Bool) (hV:V=fun i=>hasB l l[k].needs (l.getD i zeroP).name):(boolsA n V).setIfInBounds k (.bool true)=boolsA n (selfV l k):=by
 rw[boolsA_set]
 congr 1
 funext i
 subst hV
 unfold selfV
 rw[getD_cm hk]
theorem KSet.mono {w:World} {b n m:Nat} {L:List Str} (h:KSet w b n L) (hm:n<=m):KSet w b m L:=by
 obtain⟨D,h,r⟩:=h
 exact⟨D,h.mono hm,r⟩
theorem KSet.ne {w:World} {b n g:Nat} {L:List Str} {t:TypeId} {cs:Array Value} (h:KSet w b n L) (k:Blk w g t cs):g≠b:=fun e=>by
 obtain⟨D,⟨es,clock,hb,_⟩,_⟩:=h
 unfold Blk at k
 rw[e,hb] at k
 cases k
theorem KSet.congr {w:World} {b n:Nat} {L M:List Str} (h:KSet w b n L) (e:L=M):KSet w b n M:=e ▸ h
structure SvSt (w0:World) (bP:Nat) (pc:Array Value) (bC:Nat) (cc:Array Value) (bI:Nat) (iv:Array Value) (bM N:Nat) (L:List Str) (w:World):Prop where
 p:Blk w bP 76 pc
 c:Blk w bC 82 cc
 i:Blk w bI 4 iv
 m:KSet w bM N L
 x:Ext w0 w
 hM:w0.heap.size<=bM
namespace SvSt
variable {w0 w w':World} {bP bC bI bM N N':Nat} {pc cc iv:Array Value} {L L':List Str}
theorem ext (h:SvSt w0 bP pc bC cc bI iv bM N L w) (hx:Ext w w'):SvSt w0 bP pc bC cc bI iv bM N L w':=⟨h.p.ext hx,h.c.ext hx,h.i.ext hx,h.m.ext hx,h.x.trans hx,h.hM⟩
theorem upd (h:SvSt w0 bP pc bC cc bI iv bM N L w) (hg:w.grownBy w' (some bM)) (hm:KSet w' bM N' L'):SvSt w0 bP pc bC cc bI iv bM N' L' w' :=
 ⟨h.p.turned hg (by simpa using h.m.ne h.p),h.c.turned hg (by simpa using h.m.ne h.c),h.i.turned hg (by simpa using h.m.ne h.i),hm,h.x.row hg h.hM,h.hM⟩
theorem congr (h:SvSt w0 bP pc bC cc bI iv bM N L w) (e:L=L') (hn:N<=N'):SvSt w0 bP pc bC cc bI iv bM N' L' w:=⟨h.p,h.c,h.i,(h.m.mono hn).congr e,h.x,h.hM⟩
end SvSt
end
end Go.Proofs.YtmpccllnpcbgcaaGreatDoor
