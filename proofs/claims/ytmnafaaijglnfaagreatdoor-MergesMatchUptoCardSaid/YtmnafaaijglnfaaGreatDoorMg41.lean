/- Contract of feed.Merge. -/
import Derived.Test.YtmnafaaijglnfaaGreatDoorMg37
import Derived.Test.YtmnafaaijglnfaaGreatDoorMg32
import Derived.Test.YtmnafaaijglnfaaGreatDoorMg33
import Derived.Test.YtmnafaaijglnfaaGreatDoorMg38
namespace Go.Proofs.YtmnafaaijglnfaaGreatDoor
open Go.RowKit
def mgCh (l:List Fd):ByteArray:=(l.head?.map Fd.ch).getD ⟨#[]⟩
theorem mgCh_at {l:List Fd} (h:0 < l.length):mgCh l=l[0].ch:=by
 cases l with
 | nil=>cases h
 | cons f l=>rfl
structure MgRes (w:World) (ch:ByteArray) (sr tm:Int) (A:Option Addr) (n c:Nat) (l:List Fd):Prop where
 bad:mgErr l≠0->ch=⟨#[]⟩∧sr=0∧tm=0∧A=none∧n=0∧c=0
 good:mgErr l=0->ch=mgCh l∧sr=mgSr l∧tm=mgTm l∧n=(mgOs l).length∧RdO w A (mgOs l)
theorem mgErr_bad {l:List Fd} {e:Int} (h:mgSt l=e) (he:e≠0):mgErr l=e:=by unfold mgErr;rw[h,if_pos he]
theorem mgErr_full {l:List Fd} (h:mgSt l=0) (he:500 < (mgOs l).length):mgErr l=4:=by unfold mgErr;rw[if_neg (by simp[h]),if_pos he]
theorem mgErr_ok {l:List Fd} (h:mgSt l=0) (he:¬ 500 < (mgOs l).length):mgErr l=0:=by unfold mgErr;rw[if_neg (by simp[h]),if_neg he]
theorem MgRes.none {w:World} {l:List Fd} {e:Int} (h:mgErr l=e) (he:e≠0):MgRes w ⟨#[]⟩ 0 0 none 0 0 l:=⟨fun _=>⟨rfl,rfl,rfl,rfl,rfl,rfl⟩,fun h0=>absurd (h.symm.trans h0) he⟩
theorem mgSt_n {l:List Fd} (h0:¬ l.length=0) (h:¬ 20 < l.length):mgSt l=fdErrs l:=by unfold mgSt;rw[if_neg h0,if_neg h]
structure OfP where
 A:Option Addr
 c:Nat
 k:Int
 n:ByteArray
 x:ByteArray
 A2:Option Addr
 m:Nat
 c2:Nat
def ofpF (N:Nat) (o:Of) (p:OfP):Fact:=⟨fun w=>OfIn (fun b=>N<=b) w o p.A p.k p.n p.x p.A2 p.m p.c2,fun _ _ h hx=>h.ext hx⟩
set_option maxRecDepth 100000 in
set_option maxHeartbeats 16000000 in
theorem Merge_any (l:List Fd) (A:Option Addr) (n c:Nat) (w:World) (hg:GoodN w) (hn:l.length=n) (hr:RdFd w A l) (hs:∀ f∈l,SmallFd f) (hl:n<=2097152) :
 Calls Tryz.prog 37 #[.slice A n c] w fun e w'=>∃ ch sr tm A' n' c',e=.returned (.tuple #[.agg #[.string ch,.int .i64 sr,.int .i64 tm,.slice A' n' c'],.int .i64 (mgErr l)])∧MgRes w' ch sr tm A' n' c' l∧Ext w w':=by
 have H0:=Hy (show n=0->mgErr l=9 from fun h=>mgErr_bad (by unfold mgSt;rw[if_pos (by omega)]) (by decide))
 have H20:=Hy (show ¬ n=0->20 < n->mgErr l=4 from fun h h2=>mgErr_bad (by unfold mgSt;rw[if_neg (by omega),if_pos (by omega)]) (by decide))
 have HST:=Hy (show ¬ n=0->¬ 20 < n->mgSt l=fdErrs l from fun h h2=>mgSt_n (by omega) (by omega))
 have HN:=Hy hn;have HG:=Hy hg;have HR:=Hy hr;have HS:=Hy hs
 have b0:=Blk.new w 59 zeroFA
 have xr0:Ext w (w.alloc (.cells zeroFA 59)):=(Ext.refl w).alloc _
 clear hn hg hr hs
 have e0:=b0.cell;have l0:=b0.lt;have f0:=b0.free
 go_enter Tryz.func37,Tryz.ntmps37
 by_cases h0:n=0
 ·subst h0
  have HE:=Hy (H0.out rfl)
  go_wp2
  refine bodyPost_ret (v:=.tuple #[zeroFV,.int .i64 9]) (by simp[results,Tryz.results37,go_sem]) rfl ?_
  exact⟨⟨#[]⟩,0,0,none,0,0,by rw[HE.out],MgRes.none HE.out (by decide),Ext.ad⟩
 have hn0:((n:Int)==0)=false:=by simp;omega
 by_cases h20:20 < n
 ·have HE:=Hy (H20.out h0 h20)
  have h20':(20:Int) < (n:Int):=by omega
  go_wp2
  refine bodyPost_ret (v:=.tuple #[zeroFV,.int .i64 4]) (by simp[results,Tryz.results37,go_sem]) rfl ?_
  exact⟨⟨#[]⟩,0,0,none,0,0,by rw[HE.out],MgRes.none HE.out (by decide),Ext.ad⟩
 have h20':¬ (20:Int) < (n:Int):=by omega
 have HST2:=Hy (HST.out h0 h20)
 clear H0 H20 HST
 go_wp2
 go_loopw [24] (fun i wr=>∃ k:Nat,k<=n∧i=.int .i64 k∧Hid (∀ f∈l.take k,f.err=0)∧Ext (w.alloc (.cells zeroFA 59)) wr) (fun i _=>n - (intOf i).toNat)
 case atStart=>exact⟨0,Nat.zero_le _,rfl,Hy (by simp),Ext.refl _⟩
 case round =>
  obtain⟨k,hk,rfl,HALL,hxr⟩:=hrel
  obtain⟨wo,rfl⟩:∃ wo:World,wo=wr:=⟨_,rfl⟩
  have hxwr:=xr0.trans hxr
  by_cases hlt:k < n
  ·have hk1:k < l.length:=by rw[HN.out];exact hlt
   obtain⟨b,i0,rfl,hX⟩:=(HR.out) (fun e=>by rw[e] at hk1;exact absurd hk1 (Nat.not_lt_zero _))
   obtain⟨A1,c1,hrow⟩:=hX k hk1
   have hrow:=hrow.ext hxwr
   have hsm:=HS.out _ (List.getElem_mem hk1)
   have HBAD:=Hy (show ¬ l[k].err=0->mgErr l=l[k].err from fun h=>mgErr_bad (HST2.out.trans (fdErrs_at hk1 HALL.out h)) h)
   have HGOOD:=Hy (show l[k].err=0->∀ f∈l.take (k+1),f.err=0 from take_okF hk1 HALL.out)
   have CK:=Hy (fun W (h:Ext wo W)=>CheckF_any l[k].ch l[k].sr l[k].tm l[k].os A1 l[k].os.length c1 W (HG.out.ext (hxwr.trans h)) rfl (hrow.has.ext h) hsm.os hsm.ch hsm.len)
   have z0:=hrow.r0;have z1:=hrow.r1;have z2:=hrow.r2;have z3:=hrow.r3
   have lz:=lt_of_cell z0
   clear hX hrow hsm
   have HE:=Hy (show feErr l[k].ch l[k].sr l[k].tm l[k].os=l[k].err from rfl)
   generalize l[k]=f at *
   obtain⟨ch,sr,tm,os⟩:=f
   dsimp only at CK z0 z1 z2 z3 HE
   rw[HE.out] at CK
   generalize Fd.err ⟨ch,sr,tm,os⟩=E at *
   generalize os.length=m at *
   clear HE
   have hxa:Ext wo (wo.alloc (.cells #[.string ch,.int .i64 sr,.int .i64 tm,.slice A1 m c1] 59)):=(Ext.refl wo).alloc _
   go_wp2_with fail
   refine (CK.out _ hxa).mono ?_
   rintro e w2 ⟨rfl,hx2⟩
   have hxo2:=hxa.trans hx2
   by_cases hz:E=0
   ·subst hz
    have HA:=Hy (HGOOD.out rfl)
    clear e0 f0 l0
    go_wp2
    go_roundw
    case rel=>exact⟨k+1,hlt,by go_num,HA,hxr.trans hxo2⟩
    case measure=>simp[intOf];omega
   ·have hne:(E != 0)=true:=by rw[bne_iff_ne];exact hz
    have HB:=Hy (HBAD.out hz)
    have HZ:=Hy hz
    have b2:=b0.ext (hxr.trans hxo2)
    have HXE:=Hy (hxwr.trans hxo2)
    clear e0 f0 l0
    have e0:=b2.cell;have l0:=b2.lt;have f0:=b2.free
    clear hz
    go_wp2
    refine bodyPost_ret (v:=.tuple #[zeroFV,.int .i64 E]) (by simp[results,Tryz.results37,go_sem,e0]) rfl ?_
    exact⟨⟨#[]⟩,0,0,none,0,0,by rw[HB.out],MgRes.none HB.out HZ.out,by have hxe:=HXE.out;exact Ext.ad⟩
  ·obtain rfl:k=n:=by omega
   have HOK:=Hy (show ∀ f∈l,f.err=0 from fun f hf=>HALL.out f (by rw[List.take_of_length_le (by rw[HN.out];exact Nat.le_refl _)];exact hf))
   have HST3:=Hy (show mgSt l=0 from HST2.out.trans (fdErrs_all HOK.out))
   have hk0:0 < l.length:=by rw[HN.out];omega
   obtain⟨bA,i0,rfl,hX⟩:=HR.out (fun e=>by rw[e] at hk0;exact absurd hk0 (Nat.lt_irrefl _))
   obtain⟨A0,c0,hrow0⟩:=hX 0 hk0
   have hrow0:=hrow0.ext hxwr
   have z0:wo.cell? ⟨bA,i0,none⟩=some (.string l[0].ch):=by have:=hrow0.r0;simpa using this
   have lz:=lt_of_cell z0
   have HCH:=Hy (mgCh_at hk0)
   have HX:=Hy hX
   generalize l[0].ch=ch at *
   clear hX hrow0 HALL HST2
   have hkp:(0:Int) < (k:Int):=by omega
   have r1:=b0.ext hxr
   have hsz:=hxr.size
   rw[World.size_alloc] at hsz
   have hlo:=l0
   have M0:=Hy (show MgS (wo.alloc (.cells #[.string ch,.int .i64 0,.int .i64 0,.slice none 0 0] 59)) w.heap.size zeroFA wo.heap.size ch 0 0 (.slice none 0 0) (mgOs (l.take 0)) from
    ⟨Blk.new wo _ _,⟨[],⟨rfl,.inl ⟨rfl,rfl⟩⟩,rfl⟩,r1.alloc _,by omega⟩)
   have hxm:Ext w (wo.alloc (.cells #[.string ch,.int .i64 0,.int .i64 0,.slice none 0 0] 59)):=hxwr.alloc _
   clear e0 f0 l0
   go_wp2_with fail
   go_loopw [42] (fun i wr=>∃ (j:Nat) (sr tm:Int) (v:Value),j<=k∧i=.int .i64 j∧Hid (MgS wr w.heap.size zeroFA wo.heap.size ch sr tm v (mgOs (l.take j)))∧Hid (sr=mgSr (l.take j)∧tm=mgTm (l.take j))∧Ext w wr) (fun i _=>k - (intOf i).toNat)
   case atStart=>exact⟨0,0,0,.slice none 0 0,Nat.zero_le _,rfl,M0,Hy ⟨rfl,rfl⟩,hxm⟩
   case round =>
    clear M0 hxm
    obtain⟨j,sr,tm,v,hj,rfl,HM,HNU,hxr1⟩:=hrel
    obtain⟨w1,rfl⟩:∃ w1:World,w1=wr:=⟨_,rfl⟩
    by_cases hlt1:j < k
    ·have hk1:j < l.length:=by rw[HN.out];exact hlt1
     obtain⟨A1,c1,hrow⟩:=HX.out j hk1
     have HRO:=Hy hrow.has
     have hrow:=hrow.ext hxr1
     have hsm:=HS.out _ (List.getElem_mem hk1)
     have HFI:=Hy (show l[j].os.length<=500∧∀ o∈l[j].os,FineO o from ⟨fd_len (HOK.out _ (List.getElem_mem hk1)),fd_fine hsm (HOK.out _ (List.getElem_mem hk1))⟩)
     have HOS:=Hy (mgOs_take hk1)
     have HSR:=Hy (mgSr_take hk1);have HTM:=Hy (mgTm_take hk1)
     have z0:=hrow.r0;have z1:=hrow.r1;have z2:=hrow.r2;have z3:=hrow.r3
     have lz1:=lt_of_cell z0
     have HSM:=Hy hsm
     clear hrow hsm
     generalize l[j]=f at *
     obtain⟨fc,fs,ft,fos⟩:=f
     dsimp only at z0 z1 z2 z3 HOS HSR HTM HFI HRO
     obtain⟨m,hm⟩:∃ m,fos.length=m:=⟨_,rfl⟩
     rw[hm] at z3
     have HM0:=Hy hm
     have hml:m<=2097152:=by rw[<-hm];exact HSM.out.len
     have bf:=Blk.new w1 59 #[.string fc,.int .i64 fs,.int .i64 ft,.slice A1 m c1]
     have hxa:Ext w1 (w1.alloc (.cells #[.string fc,.int .i64 fs,.int .i64 ft,.slice A1 m c1] 59)):=(Ext.refl w1).alloc _
     have lM1:=HM.out.blk.lt
     have M1:=HM.out.ext hxa
     have eM:=M1.blk.cell;have lM:=M1.blk.lt;have eF:=bf.cell;have lF:=bf.lt
     have lM2:wo.heap.size < w1.heap.size+1:=by rw[World.size_alloc] at lM;exact lM
     have hxra:=hxr1.trans hxa
     clear hm
     go_upto_region 16 with fail
     refine wp_region_growT [11,12,13] [7,8,9] (fun w'=>w'.cell? ⟨w1.heap.size,2,none⟩=some (.int .i64 ft)) (tops:=[_,_,_]) (by kernel_rfl) (by kernel_rfl) rfl ?_
     apply Exists.intro
     repeat (first|(apply growT_tail (by rfl);(try simp only[Act.put,List.setIfInBounds_toArray,List.set_cons_zero,List.set_cons_succ]))|(apply growT_skip;(focus exact rfl);(try simp only[Act.put,List.setIfInBounds_toArray,List.set_cons_zero,List.set_cons_succ]))|(apply growT_late (by rfl) (by rfl);(focus exact rfl);(focus (intro wq hq;first|(go_simp;done)|(go_simp;rfl)|(rcases hq with hq|hq;rotate_left;(focus ((try dsimp only at hq);go_simp;try rfl));(focus ((obtain⟨hqc,hqf⟩:=hq.ext.cells);have hqs:=hq.ext.size;go_simp;try rfl)))));(try simp only[Act.put,List.setIfInBounds_toArray,List.set_cons_zero,List.set_cons_succ]))|(apply growT_one (by rfl) (by rfl);(focus exact rfl);(focus (intro wq hwq;(obtain⟨hqc,hqf⟩:=hwq.ext.cells);have hqs:=hwq.ext.size;unfold Oper.quietAt;(try go_simp);first|rfl|(fail)));(try simp only[Act.put,List.setIfInBounds_toArray,List.set_cons_zero,List.set_cons_succ]))|(apply growT_new (by rfl) (by rfl);(focus exact rfl);(focus (intro wq;go_simp;first|exact⟨⟨rfl,rfl⟩,rfl⟩|exact⟨rfl,rfl⟩|rfl));intro b;(try simp only[Act.put,List.setIfInBounds_toArray,List.set_cons_zero,List.set_cons_succ])))
     refine growT_nil ?_
     intro wN hxN hFN
     have MN:=M1.ext hxN
     have bfN:=bf.ext hxN
     have M2:=Hy (MN.nums (max sr fs) (max tm ft))
     have hxra2:=hxra.trans hxN
     have eN:=MN.blk.cell;have fN:=MN.blk.free;have lN:=MN.blk.lt
     have s1:wN.cell? ⟨w1.heap.size,2,none⟩=some (.int .i64 ft):=bfN.cell 2
     have s2:(wN.setCell ⟨wo.heap.size,1,none⟩ (.int .i64 (max sr fs))).cell? ⟨w1.heap.size,2,none⟩=some (.int .i64 ft):=cell_set_far (by show w1.heap.size≠wo.heap.size;omega) s1
     have s3:((wN.setCell ⟨wo.heap.size,1,none⟩ (.int .i64 (max sr fs))).setCell ⟨wo.heap.size,2,none⟩ (.int .i64 (max tm ft))).cell? ⟨w1.heap.size,2,none⟩=some (.int .i64 ft):=cell_set_far (by show w1.heap.size≠wo.heap.size;omega) s2
     have S1:=Hy s1;have S2:=Hy s2;have S3:=Hy s3
     clear eM lM eF lF lM2 M1 s1 s2 s3
     refine wpTail_step (ops:=#[]) rfl S1.out ?_
     go_wp2_with fail
     refine OnlyNormal.intro ?_
     refine wpTail_step (ops:=#[]) rfl S2.out ?_
     go_wp2_with fail
     refine OnlyNormal.intro ?_
     refine wpTail_step (ops:=#[]) rfl S2.out ?_
     go_wp2_with fail
     refine OnlyNormal.intro ?_
     refine wpTail_nil S3.out ?_
     clear S1 S2 S3
     have HW:=Hy (hxra2)
     obtain⟨W2,hW2⟩:∃ W2:World,(wN.setCell ⟨wo.heap.size,1,none⟩ (.int .i64 (max sr fs))).setCell ⟨wo.heap.size,2,none⟩ (.int .i64 (max tm ft))=W2:=⟨_,rfl⟩
     have bf2:=(bfN.far (p:=⟨wo.heap.size,1,none⟩) (by show w1.heap.size≠wo.heap.size;omega) (.int .i64 (max sr fs))).far (p:=⟨wo.heap.size,2,none⟩) (by show w1.heap.size≠wo.heap.size;omega) (.int .i64 (max tm ft))
     have hx2:=(hxra2.setCell (p:=⟨wo.heap.size,1,none⟩) (by show w.heap.size<=wo.heap.size;omega) (.int .i64 (max sr fs))).setCell (p:=⟨wo.heap.size,2,none⟩) (by show w.heap.size<=wo.heap.size;omega) (.int .i64 (max tm ft))
     rw[hW2] at bf2 hx2 M2 ⊢
     have eF:=bf2.cell;have lF:=bf2.lt
     clear hW2 eN fN lN MN bfN HM hxra hxra2 HW
     have HSR2:=Hy (HSR.out.trans (by rw[<-HNU.out.1]));have HTM2:=Hy (HTM.out.trans (by rw[<-HNU.out.2]))
     generalize max sr fs=sr2 at *
     generalize max tm ft=tm2 at *
     clear HSR HTM HNU
     have HL0:=Hy (mgOs_fine HS.out HOK.out (by rw[HN.out];omega) j)
     obtain⟨L0,hL0⟩:∃ L0,mgOs (l.take j)=L0:=⟨_,rfl⟩
     rw[hL0] at M2 HOS HL0
     clear hL0
     have HMF:=Hy (mgL_fine HL0.out HFI.out)
     have hgw:=hxr1.size
     go_wp2_with fail
     go_loopw [61] (fun i wr=>∃ (q:Nat) (v':Value),q<=m∧i=.int .i64 q∧Hid (MgS wr w.heap.size zeroFA wo.heap.size ch sr2 tm2 v' (mgL L0 (fos.take q)))∧Ext w wr) (fun i _=>m - (intOf i).toNat)
     case atStart=>exact⟨0,v,Nat.zero_le _,rfl,M2,hx2⟩
     case round =>
      clear M2 hx2 eF lF bf2
      obtain⟨q,v',hq,rfl,HM2,hxr2⟩:=hrel
      obtain⟨w2,rfl⟩:∃ w2:World,w2=wr:=⟨_,rfl⟩
      by_cases hlt2:q < m
      ·have hq1:q < fos.length:=by rw[HM0.out];exact hlt2
       obtain⟨b1,i1,rfl,hXo⟩:=HRO.out (fun e=>by rw[e] at hq1;exact absurd hq1 (Nat.not_lt_zero _))
       obtain⟨A3,c3,kk,nn,xx,A4,m4,c4,hrowo⟩:=hXo q hq1
       have hrowo:=hrowo.ext hxr2
       have LD:=load_row hrowo
       have lx:=lt_of_cell hrowo.r0
       have hfo:=HFI.out.2 _ (List.getElem_mem hq1)
       have hbnd:=HMF.out q
       have HSTEP:=Hy (mgL_take L0 hq1)
       generalize mgL L0 (fos.take q)=L at *
       obtain⟨L',hL'⟩:∃ L',mgL L0 (fos.take (q+1))=L':=⟨_,rfl⟩
       rw[hL'] at HSTEP
       have HLE:=Hy hL'
       clear hL'
       generalize fos[q]=o at *
       have hin:=hrowo.has
       have hple:=ofBs_le L o
       obtain⟨PP,hPP⟩:∃ PP,ofBs L o=PP:=⟨_,rfl⟩
       obtain⟨HB,hHB⟩:∃ HB,ofHas L o=HB:=⟨_,rfl⟩
       have BIN:=Hy (fun W (h:Ext w2 W) AL cL (hr:RdO W AL L)=>show Calls Tryz.prog 42 #[.slice AL L.length cL,ofV o A3 c3 kk nn xx A4 m4 c4,.func (.func 108) #[] #[]] W fun e w'=>e=.returned (.tuple #[.int .i64 PP,.bool HB])∧Ext W w' from by
        have:=BinO_any L AL L.length cL o A3 c3 kk nn xx A4 m4 c4 W (HG.out.toGood.ext (hxr2.trans h)) rfl hr (fun p hp=>(hbnd.2 p hp).small) hfo.small (by omega)
        rw[hPP,hHB] at this
        exact this)
       have CLO:=Hy (fun W (h:Ext w2 W)=>cloneO_any o A3 c3 kk nn xx A4 m4 c4 W (hin.ext h) hfo.small (by have:=hfo.cnt;omega))
       have HS1:=Hy (show HB=true->L'=L from fun h=>by rw[HSTEP.out,mgO,if_pos (hHB.trans h)])
       have HS0:=Hy (show HB=false->L'=L.take PP++o::L.drop PP from fun h=>by rw[HSTEP.out,mgO,if_neg (by rw[hHB,h];exact Bool.false_ne_true),hPP])
       rw[hPP] at hple
       have HPL:=Hy hple
       have hLn:L.length<=10500:=hbnd.1
       obtain⟨OV,hOV⟩:∃ OV,OV=o:=⟨_,rfl⟩
       have HOV:=Hy hOV
       clear hXo hrowo hin hfo hbnd HSTEP hPP hHB hple hOV
       obtain⟨on,⟨o1,o2,o3,oa⟩,os,of_,ow,od,ob,ot,og,oh,ou,ok⟩:=o
       dsimp only[ofV] at LD BIN CLO
       obtain⟨ol,hol⟩:∃ ol,of_.length=ol:=⟨_,rfl⟩
       rw[hol] at LD BIN CLO
       have HCS:=Hy (show ∀ p:OfP,ofCs OV p.A p.c p.k p.n p.x p.A2 p.m p.c2=(#[.string on,.int .i64 o1,.int .i64 o2,.int .i64 o3,.string oa,.string os,.slice p.A ol p.c,.bool ow,.int .i64 p.k,.string p.n,.string p.x,.slice p.A2 p.m p.c2,.int .i64 ob,.int .i64 ot,.int .i64 og,.bool oh,.bool ou,.bool ok]).toList from fun p=>by rw[HOV.out,<-hol])
       clear hol
       go_upto_region 19 with fail
       go_cut [11] (fun s wx=>s=.pointer (some ⟨w2.heap.size,0,none⟩)∧Hid (Blk wx w2.heap.size 66 #[.string on,.int .i64 o1,.int .i64 o2,.int .i64 o3,.string oa,.string os,.slice A3 ol c3,.bool ow,.int .i64 kk,.string nn,.string xx,.slice A4 m4 c4,.int .i64 ob,.int .i64 ot,.int .i64 og,.bool oh,.bool ou,.bool ok])∧Ext w2 wx)
       case first=>as_aux_lemma =>
        go_wp2_with (refine wpList_load_at rfl _ _ rfl _ rfl _ LD ?_)
        go_meet
        case rel=>exact⟨rfl,Hy (Blk.new w2 _ _),(Ext.refl _).alloc _⟩
       case rest =>
       obtain⟨rfl,HBX,hxA⟩:=hcut
       obtain⟨wA,rfl⟩:∃ wA:World,wA=wc:=⟨_,rfl⟩
       have MA:=HM2.out.ext hxA
       obtain⟨AL,cL,rfl,hrdo,hcap⟩:=MA.slice
       have CB:=Hy (BIN.out wA hxA AL cL hrdo)
       have eM:=MA.blk.cell;have lM:=MA.blk.lt
       have LBX:=load_blk HBX.out rfl
       have lX:=HBX.out.lt
       clear LD BIN hrdo
       go_upto_region 20 with fail
       go_cut [12,13] (fun s12 s13 wx=>s12=.int .i64 PP∧s13=.bool HB∧Ext wA wx)
       case first=>as_aux_lemma =>
        go_wp2_with (refine wpList_load_at rfl _ _ rfl _ rfl _ LBX ?_)
        refine CB.out.mono ?_
        rintro e w3 ⟨rfl,hx3⟩
        go_wp2_with fail
        go_meet
        case rel=>exact⟨rfl,rfl,hx3⟩
       case rest =>
       clear LBX eM lM lX CB
       obtain⟨rfl,rfl,hxB⟩:=hcut
       obtain⟨wB,rfl⟩:∃ wB:World,wB=wc:=⟨_,rfl⟩
       have MB:=MA.ext hxB
       have hxAB:=hxA.trans hxB
       have hxrB:=hxr2.trans hxAB
       cases HB
       case true =>
        have MB2:=Hy (show MgS wB w.heap.size zeroFA wo.heap.size ch sr2 tm2 (.slice AL L.length cL) (mgL L0 (fos.take (q+1))) from by rw[HLE.out,HS1.out rfl];exact MB)
        clear MB MA HM2 HBX
        go_wp2
        go_roundw
        case rel=>exact⟨q+1,_,hlt2,by go_num,MB2,hxrB⟩
        case measure=>simp[intOf];omega
       case false =>
        have HLF:=Hy (HLE.out.trans (HS0.out rfl))
        have eM:=MB.blk.cell;have lM:=MB.blk.lt
        have hX:=HBX.out.ext hxB
        have LB:∀ W,Ext wB W->(loadVar 66 ⟨w2.heap.size,0,none⟩).run Tryz.prog W=_:=fun W h=>load_blk (hX.ext h) rfl
        have lX:=hX.lt
        clear HM2 MA HS0 HS1 HBX
        go_upto_region 22 with fail
        refine wp_region_growT [6,7,8] [] (fun _=>True) (tops:=[_,_,_]) (by kernel_rfl) (by kernel_rfl) rfl ?_
        apply Exists.intro
        repeat (first|(apply growT_tail (by rfl);(try simp only[Act.put,List.setIfInBounds_toArray,List.set_cons_zero,List.set_cons_succ]))|(apply growT_skip;(focus exact rfl);(try simp only[Act.put,List.setIfInBounds_toArray,List.set_cons_zero,List.set_cons_succ]))|(apply growT_load (by rfl) (by rfl) (by rfl) 66 _ rfl _ rfl _ LB;(try simp only[Act.put,List.setIfInBounds_toArray,List.set_cons_zero,List.set_cons_succ]))|(apply growT_call (β:=OfP) (d:=⟨none,0,0,⟨#[]⟩,⟨#[]⟩,none,0,0⟩) (val:=fun p=>.agg #[.string on,.int .i64 o1,.int .i64 o2,.int .i64 o3,.string oa,.string os,.slice p.A ol p.c,.bool ow,.int .i64 p.k,.string p.n,.string p.x,.slice p.A2 p.m p.c2,.int .i64 ob,.int .i64 ot,.int .i64 og,.bool oh,.bool ou,.bool ok]) (fact:=ofpF wB.heap.size OV) (by rfl) (by rfl) (by rfl) (by intro wq;go_simp;first|exact⟨rfl,rfl⟩|rfl) (by intro wq hwq;exact (CLO.out wq (hxAB.trans hwq.ext)).mono (fun e w'' h=>by obtain⟨A',c',k',n',x',B',m',d',rfl,hi',hx'⟩:=h;exact⟨hx',⟨A',c',k',n',x',B',m',d'⟩,rfl,by show OfIn _ _ OV _ _ _ _ _ _ _;rw[HOV.out];exact OfIn.keep (fun b _ hb=>Nat.le_trans hwq.ext.size hb) (fun _ _ _ _ h=>h) hi'⟩));intro p;(try simp only[Act.put,List.setIfInBounds_toArray,List.set_cons_zero,List.set_cons_succ]))|(apply growT_newF (d:=⟨none,0,0,⟨#[]⟩,⟨#[]⟩,none,0,0⟩) (cs:=fun p=>#[.string on,.int .i64 o1,.int .i64 o2,.int .i64 o3,.string oa,.string os,.slice p.A ol p.c,.bool ow,.int .i64 p.k,.string p.n,.string p.x,.slice p.A2 p.m p.c2,.int .i64 ob,.int .i64 ot,.int .i64 og,.bool oh,.bool ou,.bool ok]) (fact:=ofpF wB.heap.size OV) p (by rfl) (by rfl) (by rfl) (by intro wq;go_simp;first|exact⟨⟨rfl,rfl⟩,rfl⟩|exact⟨rfl,rfl⟩|rfl) (by intro wq hwq;exact hwq.facts 4 (by rfl));intro p2;(try simp only[Act.put,List.setIfInBounds_toArray,List.set_cons_zero,List.set_cons_succ]))|(apply growT_late (by rfl) (by rfl);(focus exact rfl);(focus (intro wq hq;first|(go_simp;done)|(go_simp;rfl)|(rcases hq with hq|hq;rotate_left;(focus ((try dsimp only at hq);go_simp;try rfl));(focus ((obtain⟨hqc,hqf⟩:=hq.ext.cells);have hqs:=hq.ext.size;go_simp;try rfl)))));(try simp only[Act.put,List.setIfInBounds_toArray,List.set_cons_zero,List.set_cons_succ]))|(apply growT_one (by rfl) (by rfl);(focus exact rfl);(focus (intro wq hwq;(obtain⟨hqc,hqf⟩:=hwq.ext.cells);have hqs:=hwq.ext.size;unfold Oper.quietAt;(try go_simp);first|rfl|(fail)));(try simp only[Act.put,List.setIfInBounds_toArray,List.set_cons_zero,List.set_cons_succ]))|(apply growT_new (by rfl) (by rfl);(focus exact rfl);(focus (intro wq;go_simp;first|exact⟨⟨rfl,rfl⟩,rfl⟩|exact⟨rfl,rfl⟩|rfl));intro b;(try simp only[Act.put,List.setIfInBounds_toArray,List.set_cons_zero,List.set_cons_succ])))
        refine growT_nil ?_
        intro wN hxN hFN
        refine wpTail_of_list (ops:=#[]) _ _ _ rfl ?_
        have hF5:Blk wN p2.1 66 #[.string on,.int .i64 o1,.int .i64 o2,.int .i64 o3,.string oa,.string os,.slice p2.2.A ol p2.2.c,.bool ow,.int .i64 p2.2.k,.string p2.2.n,.string p2.2.x,.slice p2.2.A2 p2.2.m p2.2.c2,.int .i64 ob,.int .i64 ot,.int .i64 og,.bool oh,.bool ou,.bool ok]∧wB.heap.size<=p2.1∧OfIn (fun b=>wB.heap.size<=b) wN OV p2.2.A p2.2.k p2.2.n p2.2.x p2.2.A2 p2.2.m p2.2.c2:=hFN 5
        obtain⟨bb,p3⟩:=p2
        dsimp only at hF5 ⊢
        obtain⟨hbb,hbn,hof⟩:=hF5
        obtain⟨xs,ho,hi⟩:=MB.own
        have hoN:=own_ext ho hxN
        have hiN:OffsIn (FarM w.heap.size wo.heap.size (.slice AL L.length cL)) wN L xs:=hi.keep (fun _ _ h=>h) (fun _ _ _ _ hc=>hxN.cell hc)
        have hgt:∀ k',(Value.slice AL L.length cL).ownBlock=some k'->wo.heap.size < k'∧k' < wB.heap.size:=fun k' h=>MB.own_gt h
        have hrb:=MB.lt
        have hsN:=hxN.size
        have hofN:=hof.keep (P':=FarM w.heap.size wo.heap.size (.slice AL L.length cL)) (fun b' _ (hb':wB.heap.size<=b')=>⟨by omega,by omega,fun e=>by have:=hgt _ e;omega⟩) (fun _ _ _ _ h=>h)
        have bN:=MB.blk.ext hxN;have rN:=MB.res.ext hxN
        have hxrN:=hxrB.trans hxN
        have CI:=Hy (InsO_any (wo.heap.size+1) (.slice AL L.length cL) L.length PP xs bb 1 (ofCs OV p3.A p3.c p3.k p3.n p3.x p3.A2 p3.m p3.c2) wN hoN HPL.out (by omega) (by omega) (by rw[HCS.out p3];exact hbb) (fun e=>by have:=hgt _ e;omega) rfl (hiN.one) (ofCs_one OV _ _ _ _ _ _ _ _))
        have HINS:=Hy (fun (w5:World) (v5:Value) (ho5:w5.ownsRow (wo.heap.size+1) 66 18 v5 (L.length+1) _) hg5 hn5=>MgS.ins (c:=p3.c) bN rN hrb hoN hiN hofN HPL.out ho5 hg5 hn5)
        have hBo:some wo.heap.size≠(Value.slice AL L.length cL).ownBlock:=fun e=>by have:=(hgt _ e.symm).1;omega
        have HGR:=Hy (fun (w5:World) (hg5:wN.grownBy w5 (Value.slice AL L.length cL).ownBlock)=>hxrN.grown hoN (by omega) hg5)
        clear eM lM LB lX hX hFN MB hbb hof hiN hofN ho hi hoN rN CLO
        go_wp2_with fail
        refine CI.out.mono ?_
        rintro e w5 ⟨v5,rfl,ho5,hg5,hnew5⟩
        obtain⟨g5,c5,rfl,_⟩:=own_form ho5 (Nat.succ_pos _)
        have M5:=Hy (HINS.out w5 _ ho5 hg5 hnew5)
        have b5:=bN.grownR hg5 hBo
        have e5:=b5.cell;have f5:=b5.free;have l5:=b5.lt
        have hx5:=(HGR.out w5 hg5).setCell (p:=⟨wo.heap.size,3,none⟩) (by show w.heap.size<=wo.heap.size;omega) (.slice (some ⟨g5,0,none⟩) (L.length+1) c5)
        clear CI HINS HGR ho5 hg5 hnew5
        go_wp2_with fail
        refine OnlyNormal.intro ?_
        clear e5 f5 l5
        go_wp2
        go_roundw
        case rel=>exact⟨q+1,_,hlt2,by go_num,Hy (by rw[HLF.out];exact HOV.out ▸ M5.out),hx5⟩
        case measure=>simp[intOf];omega
      ·obtain rfl:q=m:=by omega
       have M3:=Hy (show MgS w2 w.heap.size zeroFA wo.heap.size ch sr2 tm2 v' (mgOs (l.take (j+1))) from by
        have:=HM2.out
        rw[HOS.out]
        rwa [List.take_of_length_le (by rw[HM0.out];exact Nat.le_refl _)] at this)
       have HNU:=Hy (And.intro HSR2.out.symm HTM2.out.symm)
       clear HM2 HOS HMF
       go_wp2
       go_roundw
       case rel=>exact⟨j+1,sr2,tm2,v',hlt1,by go_num,M3,HNU,hxr2⟩
       case measure=>simp[intOf];omega
    ·obtain rfl:j=k:=by omega
     have hN:=HNU.out
     have hM:=HM.out
     rw[List.take_of_length_le (by rw[HN.out];exact Nat.le_refl _)] at hN hM
     obtain⟨rfl,rfl⟩:=hN
     obtain⟨AL,cL,rfl,hrdo,hcap⟩:=hM.slice
     have HRD:=Hy (fun w' h=>hM.keepR (w':=w') h)
     have eM:=hM.blk.cell;have lM:=hM.blk.lt;have eR:=hM.res.cell;have fR:=hM.res.free;have lR:=hM.res.lt
     have hrb:=hM.lt
     have hR:=hM.res
     clear hM HM HNU hrdo hcap HX HR z0
     obtain⟨mo,hmo⟩:∃ mo,(mgOs l).length=mo:=⟨_,rfl⟩
     rw[hmo] at eM
     by_cases h5:500 < mo
     ·have h5':(500:Int) < (mo:Int):=by omega
      have HE:=Hy (mgErr_full HST3.out (by rw[hmo];exact h5))
      have hR2:=hR.set 0 (.string ⟨#[]⟩)
      go_wp2
      refine bodyPost_ret (v:=.tuple #[zeroFV,.int .i64 4]) (by simp[results,Tryz.results37,go_sem,eR]) rfl ?_
      exact⟨⟨#[]⟩,0,0,none,0,0,by rw[HE.out],MgRes.none HE.out (by decide),Ext.ad⟩
     ·have h5':¬ (500:Int) < (mo:Int):=by omega
      have HE:=Hy (mgErr_ok HST3.out (by rw[hmo];exact h5))
      have RR:=Hy ((((hR.set 0 (.string ch)).set 1 (.int .i64 (mgSr l))).set 2 (.int .i64 (mgTm l))).set 3 (.slice AL mo cL))
      have hE:ExtC (fun i=>i=w.heap.size) w1 ((((w1.setCell ⟨w.heap.size,0,none⟩ (.string ch)).setCell ⟨w.heap.size,1,none⟩ (.int .i64 (mgSr l))).setCell ⟨w.heap.size,2,none⟩ (.int .i64 (mgTm l))).setCell ⟨w.heap.size,3,none⟩ (.slice AL mo cL)) :=
       ((((ExtC.refl (fun i=>i=w.heap.size) w1).set (p:=⟨w.heap.size,0,none⟩) (.inl rfl) (.string ch)).set (p:=⟨w.heap.size,1,none⟩) (.inl rfl) (.int .i64 (mgSr l))).set (p:=⟨w.heap.size,2,none⟩) (.inl rfl) (.int .i64 (mgTm l))).set (p:=⟨w.heap.size,3,none⟩) (.inl rfl) (.slice AL mo cL)
      have HF:=Hy (And.intro (HRD.out _ hE) (ExtC.ext hxr1 hE (fun i hi=>by omega)))
      have HM2:=Hy hmo
      clear hE HRD hmo hR
      go_wp2
      have eF:=RR.out.cell
      refine bodyPost_ret (v:=.tuple #[.agg #[.string ch,.int .i64 (mgSr l),.int .i64 (mgTm l),.slice AL mo cL],.int .i64 0]) (by simp[results,Tryz.results37,go_sem,eF]) rfl ?_
      exact⟨ch,mgSr l,mgTm l,AL,mo,cL,by rw[HE.out],⟨fun h=>absurd HE.out h,fun _=>⟨HCH.out.symm,rfl,rfl,HM2.out.symm,HF.out.1⟩⟩,HF.out.2⟩
end Go.Proofs.YtmnafaaijglnfaaGreatDoor
