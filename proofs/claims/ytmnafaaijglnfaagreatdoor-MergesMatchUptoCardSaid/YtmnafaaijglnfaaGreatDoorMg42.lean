/- The law MergesMatch. -/
import Derived.Test.YtmnafaaijglnfaaGreatDoorMg40
import Derived.Test.YtmnafaaijglnfaaGreatDoorMg41
import Derived.Test.YtmnafaaijglnfaaGreatDoorMg39
import Derived.Test.YtmnafaaijglnfaaGreatDoorMg34
namespace Go.Proofs.YtmnafaaijglnfaaGreatDoor
open Go.RowKit
theorem first2_anyM (a b:Int) (g c:Nat) (W:World) (hg:g=W.heap.size) :
 Calls Tryz.prog 11 #[.slice (some ⟨g,0,none⟩) 2 c] (W.alloc (.cells #[.int .i64 a,.int .i64 b] 24)) fun e w'=>e=.returned (.int .i64 (firstI [a,b]))∧Ext W w':=by
 subst hg
 exact (First_any W.heap.size c [a,b] _ (by intro k hk;rw[(Blk.new W 24 #[.int .i64 a,.int .i64 b]).cell];match k,hk with|0,_=>rfl|1,_=>rfl) (by simp)).mono fun e w' h=>⟨h.1,h.2 ▸ (Ext.refl W).alloc _⟩
def mgHd (n:Nat):Int:=firstI [if n=0 then 9 else 0,if 20 < n then 4 else 0]
theorem mgSt_hd (l:List Fd):firstI [mgHd l.length,fdErrs l]=mgSt l:=by
 unfold mgHd mgSt
 by_cases h:l.length=0
 ·simp[firstI,h]
 ·by_cases h2:20 < l.length
  ·simp[firstI,h,h2]
  ·simp[firstI,h,h2]
   intro h3;exact h3.symm
theorem mgSt_zero {l:List Fd} (h:mgSt l=0):¬ l.length=0∧l.length<=20∧∀ f∈l,f.err=0:=by
 unfold mgSt at h
 by_cases h0:l.length=0
 ·rw[if_pos h0] at h;cases h
 ·rw[if_neg h0] at h
  by_cases h1:20 < l.length
  ·rw[if_pos h1] at h;cases h
  ·rw[if_neg h1] at h
   exact⟨h0,by omega,fun f hf=>firstI_all h _ (List.mem_map_of_mem hf)⟩
theorem RdFd.extM {w w':World} {A:Option Addr} {l:List Fd} (h:RdFd w A l) (hx:Ext w w'):RdFd w' A l:=fun hn=>by
 obtain⟨b,i,e,k⟩:=h hn
 exact⟨b,i,e,fun j hj=>by
  obtain⟨A1,c1,h⟩:=k j hj
  exact⟨A1,c1,h.ext hx⟩⟩
theorem OfIn.below {w:World} {o:Of} {A:Option Addr} {k:Int} {n x:ByteArray} {A2:Option Addr} {m c2:Nat} (h:OfIn AnyB w o A k n x A2 m c2):OfIn (fun b=>b < w.heap.size) w o A k n x A2 m c2:=h.keep (fun _ hb _=>hb) (fun _ _ _ _ h=>h)
theorem firstI_ass (a b c:Int):firstI [firstI [a,b],c]=firstI [a,firstI [b,c]]:=by
 simp only[firstI]
 by_cases h:a=0<;>by_cases h2:b=0<;>by_cases h3:c=0<;>simp[h,h2,h3]
set_option maxHeartbeats 16000000 in
set_option maxRecDepth 100000 in
theorem MergesMatch_any (l:List Fd) (A:Option Addr) (n c:Nat) (w:World) (hg:GoodN w) (hn:l.length=n) (hr:RdFd w A l) (hs:∀ f∈l,SmallFd f) (hl:n<=2097152) :
 Calls Tryz.prog 6 #[.slice A n c] w fun e w'=>e=.returned (.bool true)∧Ext w w':=by
 have CM:=Hy (Merge_any l A n c w hg hn hr hs hl)
 have HN:=Hy hn;have HG:=Hy hg;have HR:=Hy hr;have HS:=Hy hs
 obtain⟨X1,hX1⟩:∃ X,(if n=0 then (9:Int) else 0)=X:=⟨_,rfl⟩
 obtain⟨X2,hX2⟩:∃ X,(if 20 < n then (4:Int) else 0)=X:=⟨_,rfl⟩
 have CW1:=Hy (show ∀ W,Calls Tryz.prog 38 #[.bool ((n:Int)==0),.int .i64 9] W fun e w'=>e=.returned (.int .i64 X1)∧W=w' from fun W=>(When_any ((n:Int)==0) 9 W).mono fun e w' h=>⟨h.1.trans (ret_int (by rw[<-hX1];by_cases h5:n=0<;>simp[h5])),h.2⟩)
 have CW2:=Hy (show ∀ W,Calls Tryz.prog 38 #[.bool (decide ((20:Int) < (n:Int))),.int .i64 4] W fun e w'=>e=.returned (.int .i64 X2)∧W=w' from fun W=>(When_any (decide ((20:Int) < (n:Int))) 4 W).mono fun e w' h=>⟨h.1.trans (ret_int (by rw[<-hX2];by_cases h5:20 < n<;>simp[h5]<;>omega)),h.2⟩)
 obtain⟨HD,hHD⟩:∃ X,mgHd n=X:=⟨_,rfl⟩
 have HH:=Hy (show HD=firstI [X1,X2] from by rw[<-hHD,<-hX1,<-hX2];rfl)
 have HST:=Hy (show firstI [HD,fdErrs l]=mgSt l from by rw[<-hHD,<-hn];exact mgSt_hd l)
 clear hn hg hr hs hX1 hX2 hHD
 go_enter Tryz.func6,Tryz.ntmps6
 go_wp2_with fail
 refine CM.out.mono ?_
 rintro e w1 ⟨xch,xsr,xtm,xA,xn,xcp,rfl,hres,hx1⟩
 have HRES:=Hy hres
 clear hres CM
 have bF:=Blk.new w1 59 #[.string xch,.int .i64 xsr,.int .i64 xtm,.slice xA xn xcp]
 have HR:=Hy (HR.out.extM hx1);have HG:=Hy (HG.out.ext hx1)
 have HX1:=Hy hx1
 clear hx1
 have hxF:Ext w1 (w1.alloc (.cells #[.string xch,.int .i64 xsr,.int .i64 xtm,.slice xA xn xcp] 59)):=(Ext.refl _).alloc _
 go_upto_region 2 with fail
 go_cut [3,4,5] (fun s3 s4 s5 wx=>s3=.pointer (some ⟨w1.heap.size,0,none⟩)∧s4=.int .i64 (mgErr l)∧s5=.int .i64 HD∧Hid (Blk wx w1.heap.size 59 #[.string xch,.int .i64 xsr,.int .i64 xtm,.slice xA xn xcp])∧Ext w1 wx)
 case first=>as_aux_lemma =>
  go_wp2_with fail
  refine (CW1.out _).mono ?_
  rintro e w' ⟨rfl,rfl⟩
  go_wp2_with fail
  refine (CW2.out _).mono ?_
  rintro e w' ⟨rfl,rfl⟩
  go_wp2_with fail
  refine (first2_anyM X1 X2 _ _ _ (by simp[World.size_alloc])).mono ?_
  rw[<-HH.out]
  rintro e w2 ⟨rfl,hx2⟩
  go_wp2_with fail
  go_meet
  case rel=>exact⟨rfl,rfl,rfl,Hy (bF.ext hx2),hxF.trans hx2⟩
 case rest =>
 clear bF hxF CW1 CW2
 obtain⟨rfl,rfl,rfl,HBF,hxA⟩:=hcut
 obtain⟨wA,rfl⟩:∃ wA:World,wA=wc:=⟨_,rfl⟩
 go_wp2_with fail
 go_loopw [5,32] (fun s5 i wr=>∃ k:Nat,k<=n∧i=.int .i64 k∧s5=.int .i64 (firstI [HD,fdErrs (l.take k)])∧Hid (Blk wr w1.heap.size 59 #[.string xch,.int .i64 xsr,.int .i64 xtm,.slice xA xn xcp])∧Ext w1 wr) (fun _ i _=>n - (intOf i).toNat)
 case atStart=>exact⟨0,Nat.zero_le _,rfl,by simp[fdErrs,firstI],HBF,hxA⟩
 case round =>
  clear HBF hxA
  obtain⟨k,hk,rfl,rfl,HBF,hxr⟩:=hrel
  obtain⟨wo,rfl⟩:∃ wo:World,wo=wr:=⟨_,rfl⟩
  by_cases hlt:k < n
  ·have hk1:k < l.length:=by rw[HN.out];exact hlt
   obtain⟨b,i0,rfl,hX⟩:=HR.out (fun e=>by rw[e] at hk1;exact absurd hk1 (Nat.not_lt_zero _))
   obtain⟨A1,c1,hrow⟩:=hX k hk1
   have hrow:=hrow.ext hxr
   have hsm:=HS.out _ (List.getElem_mem hk1)
   have HTK:=Hy (show firstI [firstI [HD,fdErrs (l.take k)],l[k].err]=firstI [HD,fdErrs (l.take (k+1))] from by rw[firstI_ass,fdErrs_take hk1])
   have CK:=Hy (fun W (h:Ext wo W)=>FeedError_any l[k].ch l[k].sr l[k].tm l[k].os A1 l[k].os.length c1 W (HG.out.ext (hxr.trans h)) rfl (hrow.has.ext h) hsm.os hsm.ch hsm.len)
   have z0:=hrow.r0;have z1:=hrow.r1;have z2:=hrow.r2;have z3:=hrow.r3
   have lz:=lt_of_cell z0
   clear hX hrow hsm
   have HE:=Hy (show feErr l[k].ch l[k].sr l[k].tm l[k].os=l[k].err from rfl)
   generalize l[k]=f at *
   obtain⟨ch,sr,tm,os⟩:=f
   dsimp only at CK z0 z1 z2 z3 HE
   rw[HE.out] at CK
   generalize Fd.err ⟨ch,sr,tm,os⟩=E at *
   generalize os.length=m at *
   clear HE
   generalize firstI [HD,fdErrs (l.take k)]=F at *
   have hxa:Ext wo (wo.alloc (.cells #[.string ch,.int .i64 sr,.int .i64 tm,.slice A1 m c1] 59)):=(Ext.refl wo).alloc _
   go_wp2_with fail
   refine (CK.out _ hxa).mono ?_
   rintro e w2 ⟨rfl,hx2⟩
   have hxo2:=hxa.trans hx2
   go_wp2_with fail
   refine (first2_anyM F E _ _ _ rfl).mono ?_
   rw[HTK.out]
   rintro e w3 ⟨rfl,hx3⟩
   have hxo3:=hxo2.trans hx3
   have HB3:=Hy (HBF.out.ext hxo3)
   clear HTK HBF
   go_wp2
   go_roundw
   case rel=>exact⟨k+1,hlt,by go_num,rfl,HB3,hxr.trans hxo3⟩
   case measure=>simp[intOf];omega
  ·obtain rfl:k=n:=by omega
   rw[List.take_of_length_le (by rw[HN.out];exact Nat.le_refl _),HST.out]
   have CF:=Hy (fun W (h:Ext w1 W)=>feeds_any W (HG.out.ext h))
   by_cases hz:mgSt l=0
   rotate_left
   ·-- an error of the list
    have HE:=Hy (mgErr_bad rfl hz)
    obtain⟨rfl,rfl,rfl,rfl,rfl,rfl⟩:=HRES.out.bad (by rw[HE.out];exact hz)
    have hne:(mgSt l != 0)=true:=by rw[bne_iff_ne];exact hz
    clear HRES HST
    rw[HE.out] at *
    generalize mgSt l=ST at *
    clear hz
    go_wp2_with fail
    refine (CF.out _ hxr).mono ?_
    rintro e w2 ⟨rfl,hx2⟩
    have b2:=HBF.out.ext hx2
    have hxr2:=hxr.trans hx2
    go_wp2_with fail
    refine (CF.out _ hxr2).mono ?_
    rintro e w3 ⟨rfl,hx3⟩
    have b3:=b2.ext hx3
    have e3:=b3.cell;have l3:=b3.lt
    have hxr3:=hxr2.trans hx3
    go_wp2_with fail
    refine (noFeed0_any _).mono ?_
    rintro e w4 ⟨rfl,hx4⟩
    go_wp2
    go_ret
    exact⟨rfl,HX1.out.trans (hxr3.trans hx4)⟩
   ·obtain⟨hn0,hn20,hok⟩:=mgSt_zero hz
    have HOK:=Hy hok
    have HST3:=Hy hz
    rw[HN.out] at hn0 hn20
    have hk0:0 < l.length:=by rw[HN.out];omega
    obtain⟨bA,i0,rfl,hX⟩:=HR.out (fun e=>by rw[e] at hk0;exact absurd hk0 (Nat.lt_irrefl _))
    obtain⟨A0,c0,hrow0⟩:=hX 0 hk0
    have hrow0:=hrow0.ext hxr
    have hz0:wo.cell? ⟨bA,i0,none⟩=some (.string l[0].ch):=by have:=hrow0.r0;simpa using this
    have HCH:=Hy (mgCh_at hk0)
    have HX:=Hy hX
    generalize l[0].ch=ch at *
    clear hX hrow0
    rw[hz]
    go_wp2_with fail
    refine (CF.out _ hxr).mono ?_
    rintro e wB0 ⟨rfl,hx2⟩
    have hxwr:=hxr.trans hx2
    have r1:=HBF.out.ext hx2
    have z0:=hx2.cell hz0
    have lz:=lt_of_cell z0
    have hkp:(0:Int) < (k:Int):=by omega
    have hlo:=r1.lt
    clear HBF hz0 hx2 hn0 hz hok
    have M0:=Hy (show MgS (wB0.alloc (.cells #[.string ch,.int .i64 0,.int .i64 0,.slice none 0 0] 59)) w1.heap.size #[.string xch,.int .i64 xsr,.int .i64 xtm,.slice xA xn xcp] wB0.heap.size ch 0 0 (.slice none 0 0) (mgOs (l.take 0)) from
     ⟨Blk.new wB0 _ _,⟨[],⟨rfl,.inl ⟨rfl,rfl⟩⟩,rfl⟩,r1.alloc _,by omega⟩)
    have hxm:Ext w1 (wB0.alloc (.cells #[.string ch,.int .i64 0,.int .i64 0,.slice none 0 0] 59)):=hxwr.alloc _
    go_wp2_with fail
    go_loopw [65] (fun i wr=>∃ (j:Nat) (sr tm:Int) (v:Value),j<=k∧i=.int .i64 j∧Hid (MgS wr w1.heap.size #[.string xch,.int .i64 xsr,.int .i64 xtm,.slice xA xn xcp] wB0.heap.size ch sr tm v (mgOs (l.take j)))∧Hid (sr=mgSr (l.take j)∧tm=mgTm (l.take j))∧Ext w1 wr) (fun i _=>k - (intOf i).toNat)
    case atStart=>exact⟨0,0,0,.slice none 0 0,Nat.zero_le _,rfl,M0,Hy ⟨rfl,rfl⟩,hxm⟩
    case round =>
     clear M0 hxm
     obtain⟨j,sr,tm,v,hj,rfl,HM,HNU,hxr1⟩:=hrel
     obtain⟨v1,rfl⟩:∃ v1:World,v1=wr:=⟨_,rfl⟩
     by_cases hlt1:j < k
     ·have hk1:j < l.length:=by rw[HN.out];exact hlt1
      obtain⟨A1,c1,hrow⟩:=HX.out j hk1
      have HRO:=Hy hrow.has
      have hrow:=hrow.ext hxr1
      have hsm:=HS.out _ (List.getElem_mem hk1)
      have HFI:=Hy (show l[j].os.length<=500∧∀ o∈l[j].os,FineO o from ⟨fd_len (HOK.out _ (List.getElem_mem hk1)),fd_fine hsm (HOK.out _ (List.getElem_mem hk1))⟩)
      have HOS:=Hy (mgOs_take hk1)
      have HSR:=Hy (mgSr_take hk1);have HTM:=Hy (mgTm_take hk1)
      have z0:=hrow.r0;have z1:=hrow.r1;have z2:=hrow.r2;have z3:=hrow.r3
      have lz1:=lt_of_cell z0
      have HSM:=Hy hsm
      clear hrow hsm
      generalize l[j]=f at *
      obtain⟨fc,fs,ft,fos⟩:=f
      dsimp only at z0 z1 z2 z3 HOS HSR HTM HFI HRO
      obtain⟨m,hm⟩:∃ m,fos.length=m:=⟨_,rfl⟩
      rw[hm] at z3
      have HM0:=Hy hm
      have hml:m<=2097152:=by rw[<-hm];exact HSM.out.len
      have bf:=Blk.new v1 59 #[.string fc,.int .i64 fs,.int .i64 ft,.slice A1 m c1]
      have hxa:Ext v1 (v1.alloc (.cells #[.string fc,.int .i64 fs,.int .i64 ft,.slice A1 m c1] 59)):=(Ext.refl v1).alloc _
      have lM1:=HM.out.blk.lt
      have M1:=HM.out.ext hxa
      have eM:=M1.blk.cell;have lM:=M1.blk.lt;have eF:=bf.cell;have lF:=bf.lt
      have lM2:wB0.heap.size < v1.heap.size+1:=by rw[World.size_alloc] at lM;exact lM
      have hxra:=hxr1.trans hxa
      clear hm
      go_upto_region 14 with fail
      refine wp_region_growT [11,12,13] [7,8,9] (fun w'=>w'.cell? ⟨v1.heap.size,2,none⟩=some (.int .i64 ft)) (tops:=[_,_,_]) (by kernel_rfl) (by kernel_rfl) rfl ?_
      apply Exists.intro
      repeat (first|(apply growT_tail (by rfl);(try simp only[Act.put,List.setIfInBounds_toArray,List.set_cons_zero,List.set_cons_succ]))|(apply growT_skip;(focus exact rfl);(try simp only[Act.put,List.setIfInBounds_toArray,List.set_cons_zero,List.set_cons_succ]))|(apply growT_late (by rfl) (by rfl);(focus exact rfl);(focus (intro wq hq;first|(go_simp;done)|(go_simp;rfl)|(rcases hq with hq|hq;rotate_left;(focus ((try dsimp only at hq);go_simp;try rfl));(focus ((obtain⟨hqc,hqf⟩:=hq.ext.cells);have hqs:=hq.ext.size;go_simp;try rfl)))));(try simp only[Act.put,List.setIfInBounds_toArray,List.set_cons_zero,List.set_cons_succ]))|(apply growT_one (by rfl) (by rfl);(focus exact rfl);(focus (intro wq hwq;(obtain⟨hqc,hqf⟩:=hwq.ext.cells);have hqs:=hwq.ext.size;unfold Oper.quietAt;(try go_simp);first|rfl|(fail)));(try simp only[Act.put,List.setIfInBounds_toArray,List.set_cons_zero,List.set_cons_succ]))|(apply growT_new (by rfl) (by rfl);(focus exact rfl);(focus (intro wq;go_simp;first|exact⟨⟨rfl,rfl⟩,rfl⟩|exact⟨rfl,rfl⟩|rfl));intro b;(try simp only[Act.put,List.setIfInBounds_toArray,List.set_cons_zero,List.set_cons_succ])))
      refine growT_nil ?_
      intro wN hxN hFN
      have MN:=M1.ext hxN
      have bfN:=bf.ext hxN
      have M2:=Hy (MN.nums (max sr fs) (max tm ft))
      have hxra2:=hxra.trans hxN
      have eN:=MN.blk.cell;have fN:=MN.blk.free;have lN:=MN.blk.lt
      have s1:wN.cell? ⟨v1.heap.size,2,none⟩=some (.int .i64 ft):=bfN.cell 2
      have s2:(wN.setCell ⟨wB0.heap.size,1,none⟩ (.int .i64 (max sr fs))).cell? ⟨v1.heap.size,2,none⟩=some (.int .i64 ft):=cell_set_far (by show v1.heap.size≠wB0.heap.size;omega) s1
      have s3:((wN.setCell ⟨wB0.heap.size,1,none⟩ (.int .i64 (max sr fs))).setCell ⟨wB0.heap.size,2,none⟩ (.int .i64 (max tm ft))).cell? ⟨v1.heap.size,2,none⟩=some (.int .i64 ft):=cell_set_far (by show v1.heap.size≠wB0.heap.size;omega) s2
      have S1:=Hy s1;have S2:=Hy s2;have S3:=Hy s3
      clear eM lM eF lF lM2 M1 s1 s2 s3
      refine wpTail_step (ops:=#[]) rfl S1.out ?_
      go_wp2_with fail
      refine OnlyNormal.intro ?_
      refine wpTail_step (ops:=#[]) rfl S2.out ?_
      go_wp2_with fail
      refine OnlyNormal.intro ?_
      refine wpTail_step (ops:=#[]) rfl S2.out ?_
      go_wp2_with fail
      refine OnlyNormal.intro ?_
      refine wpTail_nil S3.out ?_
      clear S1 S2 S3
      have HW:=Hy (hxra2)
      obtain⟨W2,hW2⟩:∃ W2:World,(wN.setCell ⟨wB0.heap.size,1,none⟩ (.int .i64 (max sr fs))).setCell ⟨wB0.heap.size,2,none⟩ (.int .i64 (max tm ft))=W2:=⟨_,rfl⟩
      have bf2:=(bfN.far (p:=⟨wB0.heap.size,1,none⟩) (by show v1.heap.size≠wB0.heap.size;omega) (.int .i64 (max sr fs))).far (p:=⟨wB0.heap.size,2,none⟩) (by show v1.heap.size≠wB0.heap.size;omega) (.int .i64 (max tm ft))
      have hx2:=(hxra2.setCell (p:=⟨wB0.heap.size,1,none⟩) (by show w1.heap.size<=wB0.heap.size;omega) (.int .i64 (max sr fs))).setCell (p:=⟨wB0.heap.size,2,none⟩) (by show w1.heap.size<=wB0.heap.size;omega) (.int .i64 (max tm ft))
      rw[hW2] at bf2 hx2 M2 ⊢
      have eF:=bf2.cell;have lF:=bf2.lt
      clear hW2 eN fN lN MN bfN HM hxra hxra2 HW
      have HSR2:=Hy (HSR.out.trans (by rw[<-HNU.out.1]));have HTM2:=Hy (HTM.out.trans (by rw[<-HNU.out.2]))
      generalize max sr fs=sr2 at *
      generalize max tm ft=tm2 at *
      clear HSR HTM HNU
      have HL0:=Hy (mgOs_fine HS.out HOK.out (by rw[HN.out];omega) j)
      obtain⟨L0,hL0⟩:∃ L0,mgOs (l.take j)=L0:=⟨_,rfl⟩
      rw[hL0] at M2 HOS HL0
      clear hL0
      have HMF:=Hy (mgL_fine HL0.out HFI.out)
      have hgw:=hxr1.size
      go_wp2_with fail
      go_loopw [84] (fun i wr=>∃ (q:Nat) (v':Value),q<=m∧i=.int .i64 q∧Hid (MgS wr w1.heap.size #[.string xch,.int .i64 xsr,.int .i64 xtm,.slice xA xn xcp] wB0.heap.size ch sr2 tm2 v' (mgL L0 (fos.take q)))∧Ext w1 wr) (fun i _=>m - (intOf i).toNat)
      case atStart=>exact⟨0,v,Nat.zero_le _,rfl,M2,hx2⟩
      case round =>
       clear M2 hx2 eF lF bf2
       obtain⟨q,v',hq,rfl,HM2,hxr2⟩:=hrel
       obtain⟨w2,rfl⟩:∃ w2:World,w2=wr:=⟨_,rfl⟩
       by_cases hlt2:q < m
       ·have hq1:q < fos.length:=by rw[HM0.out];exact hlt2
        obtain⟨b1,i1,rfl,hXo⟩:=HRO.out (fun e=>by rw[e] at hq1;exact absurd hq1 (Nat.not_lt_zero _))
        obtain⟨A3,c3,kk,nn,xx,A4,m4,c4,hrowo⟩:=hXo q hq1
        have hin0:=hrowo.has.below.ext hxr2
        have hrowo:=hrowo.ext hxr2
        have LD:=load_row hrowo
        have lx:=lt_of_cell hrowo.r0
        have hfo:=HFI.out.2 _ (List.getElem_mem hq1)
        have hbnd:=HMF.out q
        have HSTEP:=Hy (mgL_take L0 hq1)
        generalize mgL L0 (fos.take q)=L at *
        obtain⟨L',hL'⟩:∃ L',mgL L0 (fos.take (q+1))=L':=⟨_,rfl⟩
        rw[hL'] at HSTEP
        have HLE:=Hy hL'
        clear hL'
        generalize fos[q]=o at *
        have hin:=hrowo.has
        have hple:=ofBs_le L o
        obtain⟨PP,hPP⟩:∃ PP,ofBs L o=PP:=⟨_,rfl⟩
        obtain⟨HB,hHB⟩:∃ HB,ofHas L o=HB:=⟨_,rfl⟩
        have BIN:=Hy (fun W (h:Ext w2 W) AL cL (hr:RdO W AL L)=>show Calls Tryz.prog 42 #[.slice AL L.length cL,ofV o A3 c3 kk nn xx A4 m4 c4,.func (.func 43) #[] #[]] W fun e w'=>e=.returned (.tuple #[.int .i64 PP,.bool HB])∧Ext W w' from by
         have:=BinL_any L AL L.length cL o A3 c3 kk nn xx A4 m4 c4 W (HG.out.ext (hxr2.trans h)) rfl hr (fun p hp=>⟨(hbnd.2 p hp).small,(hbnd.2 p hp).ver⟩) ⟨hfo.small,hfo.ver⟩ (by omega)
         rw[hPP,hHB] at this
         exact this)
        have HOI:=Hy hin0
        have HS1:=Hy (show HB=true->L'=L from fun h=>by rw[HSTEP.out,mgO,if_pos (hHB.trans h)])
        have HS0:=Hy (show HB=false->L'=L.take PP++o::L.drop PP from fun h=>by rw[HSTEP.out,mgO,if_neg (by rw[hHB,h];exact Bool.false_ne_true),hPP])
        rw[hPP] at hple
        have HPL:=Hy hple
        have hLn:L.length<=10500:=hbnd.1
        obtain⟨OV,hOV⟩:∃ OV,OV=o:=⟨_,rfl⟩
        have HOV:=Hy hOV
        clear hXo hrowo hin hin0 hfo hbnd HSTEP hPP hHB hple hOV
        obtain⟨on,⟨o1,o2,o3,oa⟩,os,of_,ow,od,ob,ot,og,oh,ou,ok⟩:=o
        dsimp only[ofV] at LD BIN
        obtain⟨ol,hol⟩:∃ ol,of_.length=ol:=⟨_,rfl⟩
        rw[hol] at LD BIN
        have HCS:=Hy (show ofCs OV A3 c3 kk nn xx A4 m4 c4=(#[.string on,.int .i64 o1,.int .i64 o2,.int .i64 o3,.string oa,.string os,.slice A3 ol c3,.bool ow,.int .i64 kk,.string nn,.string xx,.slice A4 m4 c4,.int .i64 ob,.int .i64 ot,.int .i64 og,.bool oh,.bool ou,.bool ok]).toList from by rw[HOV.out,<-hol])
        clear hol
        go_upto_region 17 with fail
        go_cut [12] (fun s wx=>s=.pointer (some ⟨w2.heap.size,0,none⟩)∧Hid (Blk wx w2.heap.size 66 #[.string on,.int .i64 o1,.int .i64 o2,.int .i64 o3,.string oa,.string os,.slice A3 ol c3,.bool ow,.int .i64 kk,.string nn,.string xx,.slice A4 m4 c4,.int .i64 ob,.int .i64 ot,.int .i64 og,.bool oh,.bool ou,.bool ok])∧Ext w2 wx)
        case first=>as_aux_lemma =>
         go_wp2_with (refine wpList_load_at rfl _ _ rfl _ rfl _ LD ?_)
         go_meet
         case rel=>exact⟨rfl,Hy (Blk.new w2 _ _),(Ext.refl _).alloc _⟩
        case rest =>
        obtain⟨rfl,HBX,hxA⟩:=hcut
        obtain⟨wA,rfl⟩:∃ wA:World,wA=wc:=⟨_,rfl⟩
        have MA:=HM2.out.ext hxA
        obtain⟨AL,cL,rfl,hrdo,hcap⟩:=MA.slice
        have CB:=Hy (BIN.out wA hxA AL cL hrdo)
        have eM:=MA.blk.cell;have lM:=MA.blk.lt
        have LBX:=load_blk HBX.out rfl
        have lX:=HBX.out.lt
        clear LD BIN hrdo
        go_upto_region 18 with fail
        go_cut [13,14] (fun s12 s13 wx=>s12=.int .i64 PP∧s13=.bool HB∧Ext wA wx)
        case first=>as_aux_lemma =>
         go_wp2_with (refine wpList_load_at rfl _ _ rfl _ rfl _ LBX ?_)
         refine CB.out.mono ?_
         rintro e w3 ⟨rfl,hx3⟩
         go_wp2_with fail
         go_meet
         case rel=>exact⟨rfl,rfl,hx3⟩
        case rest =>
        clear LBX eM lM lX CB
        obtain⟨rfl,rfl,hxB⟩:=hcut
        obtain⟨wB,rfl⟩:∃ wB:World,wB=wc:=⟨_,rfl⟩
        have MB:=MA.ext hxB
        have hxAB:=hxA.trans hxB
        have hxrB:=hxr2.trans hxAB
        cases HB
        case true =>
         have MB2:=Hy (show MgS wB w1.heap.size #[.string xch,.int .i64 xsr,.int .i64 xtm,.slice xA xn xcp] wB0.heap.size ch sr2 tm2 (.slice AL L.length cL) (mgL L0 (fos.take (q+1))) from by rw[HLE.out,HS1.out rfl];exact MB)
         clear MB MA HM2 HBX
         go_wp2
         go_roundw
         case rel=>exact⟨q+1,_,hlt2,by go_num,MB2,hxrB⟩
         case measure=>simp[intOf];omega
        case false =>
         have HLF:=Hy (HLE.out.trans (HS0.out rfl))
         have eM:=MB.blk.cell;have lM:=MB.blk.lt
         have hX:=HBX.out.ext hxB
         have LB:=load_blk hX rfl
         have lX:=hX.lt
         obtain⟨xs,ho,hi⟩:=MB.own
         have hgt:∀ k',(Value.slice AL L.length cL).ownBlock=some k'->wB0.heap.size < k'∧k' < wB.heap.size:=fun k' h=>MB.own_gt h
         have hrb:=MB.lt
         have hgw2:=hxrB.size
         -- the row of one offer
         have hxN:Ext wB (wB.alloc (.cells #[.string on,.int .i64 o1,.int .i64 o2,.int .i64 o3,.string oa,.string os,.slice A3 ol c3,.bool ow,.int .i64 kk,.string nn,.string xx,.slice A4 m4 c4,.int .i64 ob,.int .i64 ot,.int .i64 og,.bool oh,.bool ou,.bool ok] 66)):=(Ext.refl _).alloc _
         have hbb:=Blk.new wB 66 #[.string on,.int .i64 o1,.int .i64 o2,.int .i64 o3,.string oa,.string os,.slice A3 ol c3,.bool ow,.int .i64 kk,.string nn,.string xx,.slice A4 m4 c4,.int .i64 ob,.int .i64 ot,.int .i64 og,.bool oh,.bool ou,.bool ok]
         have hoN:=own_ext ho hxN
         have hiN:OffsIn (FarM w1.heap.size wB0.heap.size (.slice AL L.length cL)) (wB.alloc (.cells #[.string on,.int .i64 o1,.int .i64 o2,.int .i64 o3,.string oa,.string os,.slice A3 ol c3,.bool ow,.int .i64 kk,.string nn,.string xx,.slice A4 m4 c4,.int .i64 ob,.int .i64 ot,.int .i64 og,.bool oh,.bool ou,.bool ok] 66)) L xs:=hi.keep (fun _ _ h=>h) (fun _ _ _ _ hc=>hxN.cell hc)
         have hof:OfIn (fun b=>b < w1.heap.size) (wB.alloc (.cells #[.string on,.int .i64 o1,.int .i64 o2,.int .i64 o3,.string oa,.string os,.slice A3 ol c3,.bool ow,.int .i64 kk,.string nn,.string xx,.slice A4 m4 c4,.int .i64 ob,.int .i64 ot,.int .i64 og,.bool oh,.bool ou,.bool ok] 66)) OV A3 kk nn xx A4 m4 c4:=by rw[HOV.out];exact HOI.out.ext (hxAB.trans hxN)
         have hofN:=hof.keep (P':=FarM w1.heap.size wB0.heap.size (.slice AL L.length cL)) (fun b' _ (hb':b' < w1.heap.size)=>⟨by omega,by omega,fun e=>by have:=hgt _ e;omega⟩) (fun _ _ _ _ h=>h)
         have bN:=MB.blk.ext hxN;have rN:=MB.res.ext hxN
         have hsz1:(wB.alloc (.cells #[.string on,.int .i64 o1,.int .i64 o2,.int .i64 o3,.string oa,.string os,.slice A3 ol c3,.bool ow,.int .i64 kk,.string nn,.string xx,.slice A4 m4 c4,.int .i64 ob,.int .i64 ot,.int .i64 og,.bool oh,.bool ou,.bool ok] 66)).heap.size=wB.heap.size+1:=World.size_alloc _ _
         have hxrN:=hxrB.trans hxN
         have CI:=Hy (InsO_any (wB0.heap.size+1) (.slice AL L.length cL) L.length PP xs wB.heap.size 1 (ofCs OV A3 c3 kk nn xx A4 m4 c4) _ hoN HPL.out (by omega) (by omega) (by rw[HCS.out];exact hbb) (fun e=>by have:=hgt _ e;omega) rfl (hiN.one) (ofCs_one OV _ _ _ _ _ _ _ _))
         have HINS:=Hy (fun (w5:World) (v5:Value) (ho5:w5.ownsRow (wB0.heap.size+1) 66 18 v5 (L.length+1) _) hg5 hn5=>MgS.ins (c:=c3) bN rN hrb hoN hiN hofN HPL.out ho5 hg5 hn5)
         have hBo:some wB0.heap.size≠(Value.slice AL L.length cL).ownBlock:=fun e=>by have:=(hgt _ e.symm).1;omega
         have HGR:=Hy (fun (w5:World) (hg5:World.grownBy (wB.alloc (.cells #[.string on,.int .i64 o1,.int .i64 o2,.int .i64 o3,.string oa,.string os,.slice A3 ol c3,.bool ow,.int .i64 kk,.string nn,.string xx,.slice A4 m4 c4,.int .i64 ob,.int .i64 ot,.int .i64 og,.bool oh,.bool ou,.bool ok] 66)) w5 (Value.slice AL L.length cL).ownBlock)=>hxrN.grown hoN (by omega) hg5)
         clear hX MB hbb hof hiN hofN ho hi hoN rN
         go_wp2_with (refine wpList_load_at rfl _ _ rfl _ rfl _ LB ?_)
         refine CI.out.mono ?_
         rintro e w5 ⟨v5,rfl,ho5,hg5,hnew5⟩
         obtain⟨g5,c5,rfl,_⟩:=own_form ho5 (Nat.succ_pos _)
         have M5:=Hy (HINS.out w5 _ ho5 hg5 hnew5)
         have b5:=bN.grownR hg5 hBo
         have e5:=b5.cell;have f5:=b5.free;have l5:=b5.lt
         have hx5:=(HGR.out w5 hg5).setCell (p:=⟨wB0.heap.size,3,none⟩) (by show w1.heap.size<=wB0.heap.size;omega) (.slice (some ⟨g5,0,none⟩) (L.length+1) c5)
         clear CI HINS HGR ho5 hg5 hnew5
         go_wp2
         go_roundw
         case rel=>exact⟨q+1,_,hlt2,by go_num,Hy (by rw[HLF.out];exact HOV.out ▸ M5.out),hx5⟩
         case measure=>simp[intOf];omega
       ·obtain rfl:q=m:=by omega
        have M3:=Hy (show MgS w2 w1.heap.size #[.string xch,.int .i64 xsr,.int .i64 xtm,.slice xA xn xcp] wB0.heap.size ch sr2 tm2 v' (mgOs (l.take (j+1))) from by
         have:=HM2.out
         rw[HOS.out]
         rwa [List.take_of_length_le (by rw[HM0.out];exact Nat.le_refl _)] at this)
        have HNU:=Hy (And.intro HSR2.out.symm HTM2.out.symm)
        clear HM2 HOS HMF
        go_wp2
        go_roundw
        case rel=>exact⟨j+1,sr2,tm2,v',hlt1,by go_num,M3,HNU,hxr2⟩
        case measure=>simp[intOf];omega
     ·obtain rfl:j=k:=by omega
      have hN:=HNU.out
      have hM:=HM.out
      rw[List.take_of_length_le (by rw[HN.out];exact Nat.le_refl _)] at hN hM
      obtain⟨rfl,rfl⟩:=hN
      obtain⟨AL,cL,rfl,hrdo,hcap⟩:=hM.slice
      have HRD:=Hy hrdo
      have eM:=hM.blk.cell;have lM:=hM.blk.lt
      have rM:=Hy hM.res
      have hFI:=mgOs_fine HS.out HOK.out (by rw[HN.out];omega) l.length
      rw[List.take_length] at hFI
      clear hM HM HNU hrdo hcap HX HR z0
      obtain⟨mo,hmo⟩:∃ mo,(mgOs l).length=mo:=⟨_,rfl⟩
      rw[hmo] at eM
      by_cases h5:500 < mo
      ·have h5':(500:Int) < (mo:Int):=by omega
       have HE:=mgErr_full HST3.out (by rw[hmo];exact h5)
       obtain⟨rfl,rfl,rfl,rfl,rfl,rfl⟩:=HRES.out.bad (by rw[HE];decide)
       rw[HE] at *
       have eR:=rM.out.cell;have lR:=rM.out.lt
       clear HRES
       go_wp2_with fail
       refine (noFeed0_any _).mono ?_
       rintro e w4 ⟨rfl,hx4⟩
       go_wp2
       go_ret
       exact⟨rfl,HX1.out.trans (hxr1.trans hx4)⟩
      ·have h5':¬ (500:Int) < (mo:Int):=by omega
       have HE:=mgErr_ok HST3.out (by rw[hmo];exact h5)
       obtain⟨e1,e2,e3,e4,hrf⟩:=HRES.out.good HE
       rw[HCH.out] at e1
       rw[hmo] at e4
       subst e1 e2 e3 e4
       have CS:=Hy (SameFeed_refl xch (mgSr l) (mgTm l) (mgOs l) xA AL xn xcp cL v1 hmo (hrf.ext hxr1) HRD.out (fun o ho=>(hFI.2 o ho).small) (by omega))
       rw[HE] at *
       have eR:=rM.out.cell;have lR:=rM.out.lt
       clear HRES HRD hFI hmo hrf HE
       go_wp2_with fail
       refine CS.out.mono ?_
       rintro e w4 ⟨rfl,hx4⟩
       go_wp2
       go_ret
       exact⟨rfl,HX1.out.trans (hxr1.trans hx4)⟩
end Go.Proofs.YtmnafaaijglnfaaGreatDoor
