/- The law outlaw2.ClashesMatch: its walk. -/
import Derived.Test.YtmpccllnpcbgcaaGreatDoorPk02
import Derived.Test.YtmpccllnpcbgcaaGreatDoorPk04
import Derived.Test.YtmpccllnpcbgcaaGreatDoorPk08
import Derived.Test.YtmpccllnpcbgcaaGreatDoorPk09
import Derived.Test.YtmpccllnpcbgcaaGreatDoorPk10
import Derived.Test.YtmpccllnpcbgcaaGreatDoorPk19
import Derived.Test.YtmpccllnpcbgcaaGreatDoorPk22
import Derived.Test.YtmpccllnpcbgcaaGreatDoorPk25
import Derived.Test.YtmpccllnpcbgcaaGreatDoorPk27
import Derived.Test.YtmpccllnpcbgcaaGreatDoorPk29
import Derived.Test.YtmpccllnpcbgcaaGreatDoorPk32
import Derived.Test.YtmpccllnpcbgcaaGreatDoorPk35
import Derived.Test.YtmpccllnpcbgcaaGreatDoorPk39
import Derived.Test.YtmpccllnpcbgcaaGreatDoorPk40
import Derived.Test.YtmpccllnpcbgcaaGreatDoorPk41
import Derived.Test.YtmpccllnpcbgcaaGreatDoorPk45
import Derived.Test.YtmpccllnpcbgcaaGreatDoorMono
import Derived.Test.YtmpccllnpcbgcaaGreatDoorPaL
import Derived.Test.YtmpccllnpcbgcaaGreatDoorPaB
import Derived.Test.YtmpccllnpcbgcaaGreatDoorClA
import Derived.Test.YtmpccllnpcbgcaaGreatDoorClB
import Derived.Test.YtmpccllnpcbgcaaGreatDoorClC
import Derived.Test.YtmpccllnpcbgcaaGreatDoorClE
import Derived.Test.YtmpccllnpcbgcaaGreatDoorClF
import Derived.Test.YtmpccllnpcbgcaaGreatDoorClG
import Derived.Test.YtmpccllnpcbgcaaGreatDoorProg
import Derived.Test.YtmpccllnpcbgcaaGreatDoorShelf
import Derived.Test.YtmpccllnpcbgcaaGreatDoorShelfG
import Derived.Lib.Split
import Derived.Lib.IndexBytes
import Derived.Lib.ItoaLen
import Derived.WalkKit
import Derived.WalkSpells
import Derived.WalkLawsBesides
import Derived.LoopTactic
import Derived.Outline
import Derived.Lib.Hide
import Derived.Lib.LaidTab
import Derived.Lib.ConvBytes
import Derived.Lib.ItoaNum
import Derived.WalkSmall
import Derived.Sort.Grow
import Derived.Deep.QuietTactic
import Derived.BigQuiet
import Derived.Lib.Replace
import Derived.Lib.SplitLaws
import Derived.Laws.AppendOwn
import Derived.Laws.OwnMore
import Derived.Maps.AppendAt
import Derived.OwnWalk
import Derived.Lib.Join
import Derived.StillTail
import Derived.Lib.AtoiAll
import Derived.Lib.Small
import Derived.Lib.Bytealg
import Derived.Deep.DeepCutAuto
import Derived.Deep.AppendLies
import Derived.Deep.RegionHeld3
import Derived.Deep.RegionLaw
import Derived.MapKept
import Derived.Laws.StructEq
import Derived.Deep.LoopGhost
import Derived.Laws.Cells
import Derived.Maps.OwnSet
import Derived.Maps.StringElems
import Derived.Sort.Walk0
import Derived.Sort.KeysCollected
import Derived.Lib.SlicesCompact
import Derived.Maps.RangeWalk
import Derived.Deep.Upon
import Derived.ArgAppend
import Derived.Laws.MakeOwn
import Derived.DeepKeys3
import Derived.OrdersHeld
import Derived.RegionTactic
import GoSem.Step
import Derived.Calls
import Derived.Shelf.SlSortCmp.WholeK
import Derived.Shelf.SlSortCmp.NoneTotal
import Derived.Laws.EntriesVeiled
import Derived.Lib.SliceRun
import Derived.Laws.IdiomCopy
namespace Go.Proofs.YtmpccllnpcbgcaaGreatDoor
open Go.RowKit
set_option maxRecDepth 100000 in
theorem clM_any (q:Pkg) (A1:Option Addr) (c1:Nat) (A2:Option Addr) (c2:Nat) (A3:Option Addr) (c3:Nat) (A4:Option Addr) (c4:Nat) (gl gi b o n c k:Nat) (nm:ByteArray) (w:World) (h1:w.cell? ⟨gl,0,none⟩=some (.slice (some ⟨b,o,none⟩) n c)) (h2:w.cell? ⟨gi,0,none⟩=some (.int .i64 k)) (h3:w.cell? ⟨b,o+k * 10,none⟩=some (.string nm)) (hk:k < n) :
 Calls Tryz.prog 67 (#[pkV q A1 c1 A2 c2 A3 c3 A4 c4]++#[.pointer (some ⟨gl,0,none⟩),.pointer (some ⟨gi,0,none⟩)]) w fun e w'=>e=.returned (.bool (decide (q.name=nm)))∧Ext w w':=by
 have hq:=dec_toL q.name nm
 generalize decide (q.name=nm)=D at *
 obtain⟨pn,⟨v1,v2,v3,va⟩,pt,pe,pb,l,pm⟩:=q
 dsimp only[pkV] at *
 generalize pe.length=l1 at *
 generalize pb.length=l2 at *
 generalize l.length=l3 at *
 generalize pm.length=l4 at *
 have z1:=lt_of_cell h1;have z2:=lt_of_cell h2;have z3:=lt_of_cell h3
 have hkI:(k:Int) < (n:Int):=by omega
 go_enter Tryz.func67,Tryz.ntmps67
 go_wp2_with fail
 refine wp_region_ext (by kernel_rfl) (by kernel_rfl) ?_
 repeat (first|go_big_quiet_skip|(refine wpQuiet_step (fun K hK=>?_);go_simp;first|(refine hK _ ?_;clear hK K)|(apply Exists.intro;refine⟨fun wq hwq=>?_,hK _ ?_⟩;(obtain⟨hqc,hqf⟩:=hwq.cells;have hqs:=hwq.size;(try go_simp);first|rfl|((first|rw[if_neg (by omega)]|rw[if_pos (by omega)]);(try go_simp);rfl)|((fail)));clear hK K)))
 refine wpQuiet_nil ?_
 intro wN hxN
 obtain⟨hcN,hfN⟩:=hxN.cells
 have hsN:=hxN.size
 go_wp2
 go_ret
 exact⟨rfl,((Ext.refl w).alloc _).trans hxN⟩
theorem own_ne_blk {w:World} {B n size g:Nat} {e t:TypeId} {v:Value} {xs:List Value} {cs:Array Value} (h:w.ownsRow B e size v n xs) (hb:Blk w g t cs) (hte:t≠e):some g≠v.ownBlock:=fun e2=>by
 rcases h.2 with ⟨rfl,_⟩|⟨g',cap,cur,rfl,_,hg,_⟩
 ·cases e2
 ·have e3:g=g':=by simpa [Value.ownBlock] using e2
  subst e3
  rw[show w.heap[g]?=_ from hb] at hg
  injection hg with hg
  injection hg with _ hg
  exact hte hg
theorem clE_parts {l:List Pkg} {ch:List (List ByteArray)} {n m:Nat} (hn:l.length=n) (hm:ch.length=m):clE l ch=if n=m then if 100 < n then 4 else firstN n (clAt l ch) else 2:=by
 unfold clE;rw[hn,hm]
theorem first_cl {n m:Nat} {E F:Int} (h:E=if n=m then if 100 < n then 4 else F else 2) {X1 X2:Int} (h1:X1=if n=m then 0 else 2) (h2:X2=if 100 < n then 4 else 0):(firstI [X1,X2]=0->n=m∧n<=100)∧(¬ firstI [X1,X2]=0->firstI [X1,X2]=E):=by
 by_cases e:n=m
 ·by_cases k:100 < n
  ·rw[if_pos e] at h1 h
   rw[if_pos k] at h2 h
   subst h1 h2 h
   exact⟨fun h=>absurd h (by simp[firstI]),fun _=>by simp[firstI]⟩
  ·rw[if_pos e] at h1 h
   rw[if_neg k] at h2 h
   subst h1 h2 h
   exact⟨fun _=>⟨e,by omega⟩,fun h=>absurd (by simp[firstI]) h⟩
 ·rw[if_neg e] at h1 h
  subst h1 h
  exact⟨fun h=>absurd h (by simp[firstI]),fun _=>by simp[firstI]⟩
set_option maxHeartbeats 32000000 in
set_option maxRecDepth 100000 in
theorem ClashesMatch_any (l:List Pkg) (ch:List (List ByteArray)) (A:Option Addr) (n c:Nat) (B:Option Addr) (m d:Nat) (w:World) (hg:GoodN w) (hn:l.length=n) (hr:RdK w A l) (hs:∀ p∈l,SmallP p∧(p.comps.flatMap Cmp.needs).length<=2097152) (hl:n<=2097152) (hcap:n<=c) (hm:ch.length=m) (hrc:RdXX w B ch) (hcl:∀ x∈ch,x.length<=2000000) (hml:m<=2097152) :
 Calls Tryz.prog 9 #[.slice A n c,.slice B m d] w fun e w'=>e=.returned (.bool true)∧Ext w w':=by
 have CC:=Hy (fun W (h:Ext w W)=>Clashes_any l ch A n c B m d W (hg.ext h) hn (hr.ext h) (fun p hp=>(hs p hp).1) hl hcap hm (hrc.ext h) hcl)
 have CP:=Hy (fun W (h:Ext w W)=>packs_any W (hg.ext h))
 have HE:=Hy (clE_parts hn hm)
 have HAT:=Hy (fun i=>show clAt l ch i=f2 (f2 (pkErr (l.getD i zeroPk)) (chErr (l.getD i zeroPk).comps (ch.getD i []))) (if anyN i (fun j=>decide ((l.getD j zeroPk).name=(l.getD i zeroPk).name))=true then 6 else 0) from rfl)
 obtain⟨D1,hD1⟩:∃ D1,((n:Int) != (m:Int))=D1:=⟨_,rfl⟩
 obtain⟨D2,hD2⟩:∃ D2,decide ((100:Int) < (n:Int))=D2:=⟨_,rfl⟩
 obtain⟨X1,hX1⟩:∃ X1,X1=(if D1=true then (2:Int) else 0):=⟨_,rfl⟩
 obtain⟨X2,hX2⟩:∃ X2,X2=(if D2=true then (4:Int) else 0):=⟨_,rfl⟩
 have CW1:=Hy (fun W=>show Calls Tryz.prog 46 #[.bool D1,.int .i64 2] W fun e w'=>e=.returned (.int .i64 X1)∧W=w' from by rw[hX1];exact When_any D1 2 W)
 have CW2:=Hy (fun W=>show Calls Tryz.prog 46 #[.bool D2,.int .i64 4] W fun e w'=>e=.returned (.int .i64 X2)∧W=w' from by rw[hX2];exact When_any D2 4 W)
 have HF:=Hy (first_cl HE.out (X1:=X1) (X2:=X2) (by rw[hX1,<-hD1];by_cases e:n=m<;>simp[e];omega) (by rw[hX2,<-hD2];by_cases e:100 < n<;>simp[e]<;>omega))
 have HZV:=Hy (show ∃ z,firstI [X1,X2]=z from ⟨_,rfl⟩)
 have HN:=Hy hn
 have HM:=Hy hm
 have HR:=Hy hr
 have HRC:=Hy hrc
 have HSM:=Hy hs
 have HCL:=Hy hcl
 have HG:=Hy hg
 clear hn hm hr hrc hs hcl hX1 hX2
 generalize clE l ch=E at *
 have b0:=Blk.new w 111 #[.slice A n c]
 have hx0:Ext w (w.alloc (.cells #[.slice A n c] 111)):=(Ext.refl w).alloc _
 generalize hW0:w.alloc (.cells #[.slice A n c] 111)=W0 at *
 have HW0:=Hy hW0
 have e0:=b0.cell;have l0:=b0.lt
 clear hW0
 go_enter Tryz.func9,Tryz.ntmps9
 go_wp2_with fail
 rw[HW0.out]
 refine (CC.out _ hx0).mono ?_
 rintro e w1 ⟨A1,c1,X,rfl,hrd,hxn,hxy,hxb,hx1⟩
 have HNO:=Hy hxn;have HYES:=Hy hxy;have HRD:=Hy hrd
 have hxa:=hx0.trans hx1
 have b1:=b0.ext hx1
 clear e0 l0 hxn hxy hrd CC
 have e1:=b1.cell;have l1:=b1.lt
 go_wp2_with fail
 refine wp_region_ext_tail 10 (by kernel_rfl) (by kernel_rfl) ?_
 simp only[List.take_succ_cons,List.take_zero,List.drop_succ_cons,List.drop_zero]
 repeat (first|go_big_quiet_skip|(refine wpQuiet_step (fun K hK=>?_);go_simp;first|(refine hK _ ?_;clear hK K)|(apply Exists.intro;refine⟨fun wq hwq=>?_,hK _ ?_⟩;(obtain⟨hqc,hqf⟩:=hwq.cells;have hqs:=hwq.size;(try go_simp);first|rfl|((first|rw[if_neg (by omega)]|rw[if_pos (by omega)]);(try go_simp);rfl)|((first|(go_at_call 46;exact (CW1.out _).mono (fun e w'' h=>⟨h.1,h.2 ▸ hwq⟩))|(go_at_call 46;exact (CW2.out _).mono (fun e w'' h=>⟨h.1,h.2 ▸ hwq⟩)))));clear hK K)))
 refine wpQuiet_nil ?_
 intro wN hxN
 obtain⟨hcN,hfN⟩:=hxN.cells
 have hsN:=hxN.size
 go_wp2_with fail
 refine (First_any _ _ [X1,X2] _ ?_ (by simp)).mono ?_
 ·intro k hk
  rw[World.cell?_alloc_at _ _ _ _ rfl]
  match k,hk with
  | 0,_=>rfl
  | 1,_=>rfl
 obtain⟨z0,hz0⟩:=HZV.out
 rw[hz0] at HF
 rw[hz0]
 rintro e w' ⟨rfl,rfl⟩
 have x5:=hxN.alloc (.cells #[.int .i64 X1,.int .i64 X2] 24)
 have hxa5:=hxa.trans x5
 have b5:=b1.ext x5
 generalize wN.alloc (.cells #[.int .i64 X1,.int .i64 X2] 24)=w5 at *
 have BL:=Hy b5
 have HRD5:=Hy (HRD.out.ext x5)
 have hx6:Ext w5 (w5.alloc (.cells #[.int .i64 0] 3)):=(Ext.refl w5).alloc _
 have BI0:=Hy (Blk.new w5 3 #[.int .i64 0])
 clear hD1 hD2 CW1 CW2 HZV hz0 e1 l1 b0 b1 b5 hcN hfN hsN hxN x5 hx1 HRD
 obtain⟨M,hM⟩:∃ M:Nat->List ByteArray,M=fun j=>markL (l.getD j zeroPk).comps (clsV (l.getD j zeroPk).comps (ch.getD j [])):=⟨_,rfl⟩
 go_wp2
 go_loopg [7,8,9] n (fun kx s7 s8 s9 wr=>∃ (k gi:Nat) (z:Int) (V:Nat->Value),k<=n∧n - k<=kx∧s7=.int .i64 z∧s9=.pointer (some ⟨gi,0,none⟩)∧Hid (Blk wr gi 3 #[.int .i64 k])∧Hid (¬ z=0->z=E)∧Hid (z=0->n=m∧n<=100∧∀ j,j < k->clAt l ch j=0)∧Hid (z=0->wr.ownsRow w5.heap.size 77 1 s8 k ((List.range k).map V)∧ClsK wr M V s8 k)∧Ext w5 wr)
 case atStart=>exact⟨0,w5.heap.size,z0,fun _=>.slice none 0 0,Nat.zero_le _,by omega,rfl,rfl,BI0,Hy HF.out.2,Hy (fun h=>⟨(HF.out.1 h).1,(HF.out.1 h).2,fun j hj=>absurd hj (Nat.not_lt_zero _)⟩),Hy (fun _=>⟨World.ownsRow_nil _ _ _ _,fun j hj=>absurd hj (Nat.not_lt_zero _)⟩),hx6⟩
 case round =>
  clear BI0 hx6 HF
  obtain⟨k,gi,z,V,hk,hkx,rfl,rfl,HB,HZ1,HZ2,HZ3,hxr⟩:=hrel
  obtain⟨wo,rfl⟩:∃ wo:World,wo=wr:=⟨_,rfl⟩
  have hxw:=hxa5.trans hxr
  have eL:=(BL.out.ext hxr).cell;have lL:=(BL.out.ext hxr).lt
  have eI:=HB.out.cell;have lI:=HB.out.lt
  by_cases hz:z=0
  rotate_left
  ·-- an error: the loop ends
   obtain rfl:=HZ1.out hz
   obtain rfl:=HNO.out hz
   have hne:(z==0)=false:=by rw[beq_eq_false_iff_ne];exact hz
   have hne':(z != 0)=true:=by rw[bne_iff_ne];exact hz
   clear HZ1 HZ2 HZ3 HYES HNO HAT HE HRC HR HSM HCL HRD5
   by_cases hlt:k < n
   all_goals
    have hltI:(k:Int) < (n:Int)∨¬ (k:Int) < (n:Int):=by omega
    try have hlI:(k:Int) < (n:Int):=by omega
    try have hlI:¬ (k:Int) < (n:Int):=by omega
    clear hltI
    go_wp2_with fail
    refine (CP.out _ hxw).mono ?_
    rintro e w8 ⟨rfl,hx8⟩
    have hxw8:=hxw.trans hx8
    clear eL lL eI lI
    go_wp2_with fail
    refine (CP.out _ hxw8).mono ?_
    rintro e w9 ⟨rfl,hx9⟩
    go_wp2
    go_ret
    exact⟨by simp,hxw8.trans hx9⟩
  subst hz
  obtain⟨rfl,h100,hall⟩:=HZ2.out rfl
  obtain⟨hown,hcls⟩:=HZ3.out rfl
  have HOWN:=Hy hown;have HCLS:=Hy hcls;have HALL:=Hy hall
  clear hown hcls hall HZ1 HZ2 HZ3
  by_cases hlt:k < n
  rotate_left
  ·-- all packages are right
   obtain rfl:n=k:=by omega
   obtain rfl:E=0:=by rw[HE.out,if_pos rfl,if_neg (by omega)];exact firstN_zero HALL.out
   obtain⟨I,hI,hIl,rfl⟩:=HYES.out rfl
   obtain⟨Ac,cc,rfl,hrxx⟩:=HCLS.out.rows HOWN.out
   have HMD:=Hy (fun i (hi:i < n)=>show ((List.range n).map M).getD i []=M i from by simp[List.getD,hi])
   have HP0:=Hy (fun i (hi:i < n)=>show pkErr (l.getD i zeroPk)=0 from by
    have h:=HALL.out i hi
    rw[HAT.out] at h
    exact (f2_eq0 (f2_eq0 h).1).1)
   have CO:=Hy (fun W (h:Ext wo W)=>ClashesOf_any I l ((List.range n).map M) A n c Ac cc W HN.out (HR.out.ext (hxw.trans h)) (fun p hp=>(HSM.out p hp).1) h100 (by simp) (hrxx.ext h) (fun x hx=>by
    obtain⟨j,hj,rfl⟩:=List.mem_map.1 hx
    have hj:=List.mem_range.1 hj
    have hjl:j < l.length:=by rw[HN.out];exact hj
    have h1:=markK_len (l.getD j zeroPk).comps (clsV (l.getD j zeroPk).comps (ch.getD j [])) (l.getD j zeroPk).comps.length
    have h2:=(pk_ok (HP0.out j hj)).1
    rw[hM]
    show (markL _ _).length<=_
    unfold markL
    omega)
    (fun i hi L h1 h2=>by
      rw[HMD.out i hi,hM] at h1
      exact items_sameC (HP0.out i hi) (hI i hi) h1 h2)
    hIl (fun i hi=>by
     have h1:=firstI_ne (HP0.out i hi) (placesErr (l.getD i zeroPk).comps) (by simp)
     have h2:=firstI_ne h1 (twiceErr (itemsL (l.getD i zeroPk).comps)) (by simp)
     exact items_nodup (spots_nodup h2) (hI i hi).1))
   have hlI:¬ (n:Int) < (n:Int):=by omega
   have HRX:=Hy (fun W (h:Ext wo W)=>HRD5.out.ext (hxr.trans h))
   clear HYES HNO HAT HE HRC HR HSM HCL HRD5 HP0 HMD hI hIl hrxx HOWN HCLS HALL
   generalize allX I n n=XX at *
   go_wp2_with fail
   refine (CP.out _ hxw).mono ?_
   rintro e w8 ⟨rfl,hx8⟩
   have hxw8:=hxw.trans hx8
   have eL8:=(BL.out.ext (hxr.trans hx8)).cell;have lL8:=(BL.out.ext (hxr.trans hx8)).lt
   clear eL lL eI lI
   go_wp2_with fail
   refine (CO.out _ hx8).mono ?_
   rintro e w9 ⟨A9,c9,rfl,hr9,hx9⟩
   have CQ:=Hy (EqualCl_same A1 A9 c1 c9 _ XX w9 rfl (HRX.out _ (hx8.trans hx9)) hr9 hxb)
   clear eL8 lL8 hr9
   go_wp2_with fail
   refine CQ.out.mono ?_
   rintro e w10 ⟨rfl,hx10⟩
   go_wp2
   go_ret
   exact⟨by simp,hxw8.trans (hx9.trans hx10)⟩
  -- one package more
  have hk1:k < l.length:=by rw[HN.out];exact hlt
  have hk2:k < ch.length:=by rw[HM.out];exact hlt
  obtain⟨b,o,hA,hX⟩:=(HR.out.ext hxa5) (fun e=>by rw[e] at hk1;exact absurd hk1 (Nat.not_lt_zero _))
  obtain⟨A1',a1,A2,a2,A3,a3,A4,a4,hrow5⟩:=hX k hk1
  obtain⟨bb,bo,hBB,hY⟩:=(HRC.out.ext hxa5) (fun e=>by rw[e] at hk2;exact absurd hk2 (Nat.not_lt_zero _))
  obtain⟨Ak,ck,hcell5,hcc,hrd5⟩:=hY k hk2
  have HROW:=Hy hrow5
  have HCE5:=Hy hcell5
  have hrow:=hrow5.ext hxr
  have hcell:=hxr.cell hcell5
  have hrd:=hrd5.ext hxr
  have HATK:=Hy (HAT.out k)
  have HMK:=Hy (show M k=markL l[k].comps (clsV l[k].comps ch[k]) from by rw[hM,<-getD_pk hk1,<-getD_ch hk2])
  have HSP:=Hy (HSM.out l[k] (List.getElem_mem hk1))
  have hck:=HCL.out ch[k] (List.getElem_mem hk2)
  have CE:=Hy (fun W (h:Ext wo W)=>PackageError_any l[k] A1' a1 A2 a2 A3 a3 A4 a4 W (HG.out.ext (hxw.trans h)) (hrow.has.ext h) HSP.out.1)
  have CH:=Hy (fun W (h:Ext wo W)=>ChosenError_any l[k] A1' a1 A2 a2 A3 a3 A4 a4 ch[k] Ak ch[k].length ck W (hrow.has.comps.ext h) HSP.out.1.clen rfl hcc (hrd.ext h) (by omega))
  have CO:=Hy (fun (h0:pkErr l[k]=0) (h1:chErr l[k].comps ch[k]=0) W (h:Ext wo W)=>ClosedOfW_any l[k] A1' a1 A2 a2 A3 a3 A4 a4 ch[k] Ak ch[k].length ck W (hrow.has.comps.ext h) (pk_ok h0).1 (pk_ok h0).2 (fun c hc=>(HSP.out.1.comps c hc).name) (fun c hc=>(HSP.out.1.comps c hc).needs) HSP.out.2 rfl (hrd.ext h) (by omega) (ch_comps h1))
  have CF:=Hy (fun cp W (h:Ext wo W) hf=>ContainsPk_any 67 (enters_of Tryz.func67 (by kernel_rfl) rfl) cp (fun q=>decide (q.name=(l[k]'hk1).name)) l A k c W (by omega) (HR.out.ext (hxw.trans h)) (by omega) hf)
  have HFN:=Hy (fun (h:¬ clAt l ch k=0)=>show clAt l ch k=E from by rw[HE.out,if_pos rfl,if_neg (by omega)];exact (firstN_at hlt HALL.out h).symm)
  have HFX:=Hy (fun (h:clAt l ch k=0)=>firstN_next HALL.out h)
  rw[getD_pk hk1,getD_ch hk2] at HATK
  have LD:=fun W (h:Ext wo W)=>load_Pk (hrow.ext h)
  have r0:=hrow.r0
  have hkc:k<=c:=by omega
  have hkI:(k:Int) < (n:Int):=by omega
  have rl:=lt_of_cell r0;have rcl:=lt_of_cell hcell
  clear hX hY hrow hrd hcc hck hrow5 hcell5 hrd5 HSP HR HRC HSM HCL HE HAT HALL HYES HNO HRD5 hM
  generalize clAt l ch k=EK at *
  generalize l[k]=p at *
  generalize ch[k]=ns at *
  generalize ns.length=nk at *
  dsimp only[pkV] at LD CE CH CO
  subst hA hBB
  generalize pkErr p=P1 at *
  generalize chErr p.comps ns=P2 at *
  generalize markL p.comps (clsV p.comps ns)=ML at *
  generalize hAN:anyN k (fun j=>decide ((l.getD j zeroPk).name=p.name))=T at *
  have LW:=LD wo (Ext.refl _)
  go_wp2_with (refine wpList_load_at rfl _ _ rfl _ rfl _ LW ?_)
  refine (CE.out _ (Ext.refl _)).mono ?_
  rintro e w7 ⟨rfl,hx7⟩
  have BL7:=Hy (BL.out.ext (hxr.trans hx7));have BI7:=Hy (HB.out.ext hx7)
  clear eL lL eI lI LW CE
  have eL:=BL7.out.cell;have lL:=BL7.out.lt;have eI:=BI7.out.cell;have lI:=BI7.out.lt
  by_cases hp1:P1=0
  rotate_left
  ·have hne:(P1==0)=false:=by rw[beq_eq_false_iff_ne];exact hp1
   have HEK:=Hy (show P1=E from by
    have h:EK=P1:=by rw[HATK.out];unfold f2;rw[if_neg hp1,if_neg hp1]
    rw[<-h];exact HFN.out (by rw[h];exact hp1))
   have HB8:=Hy (Blk.new w7 3 #[.int .i64 ((k+1:Nat):Int)])
   clear LD CH CO CF HFN HFX HATK HMK r0 hcell rl rcl
   go_wp2
   go_roundg (n - (k+1))
   case measure=>omega
   case rel=>exact⟨k+1,w7.heap.size,P1,V,by omega,Nat.le_refl _,rfl,rfl,HB8,Hy (fun _=>HEK.out),Hy (fun h=>absurd h hp1),Hy (fun h=>absurd h hp1),(hxr.trans hx7).alloc _⟩
  subst hp1
  have hcell7:=hx7.cell hcell
  have rcl7:=lt_of_cell hcell7
  have LD7:=fun W (h:Ext w7 W)=>LD W (hx7.trans h)
  go_wp2_with fail
  refine wp_region_ext (by kernel_rfl) (by kernel_rfl) ?_
  repeat (first|go_big_quiet_skip|(refine wpQuiet_load (by rfl) _ _ rfl _ rfl _ LD7 ?_)|(refine wpQuiet_step (fun K hK=>?_);go_simp;first|(refine hK _ ?_;clear hK K)|(apply Exists.intro;refine⟨fun wq hwq=>?_,hK _ ?_⟩;(obtain⟨hqc,hqf⟩:=hwq.cells;have hqs:=hwq.size;(try go_simp);first|rfl|((first|rw[if_neg (by omega)]|rw[if_pos (by omega)]);(try go_simp);rfl)|((go_at_call 51;exact (CH.out _ (hx7.trans hwq)).mono (fun e w'' h=>⟨h.1,hwq.trans h.2⟩))));clear hK K)))
  refine wpQuiet_nil ?_
  intro wN hxN
  obtain⟨hcN,hfN⟩:=hxN.cells
  have hsN:=hxN.size
  have hx8:=hx7.trans hxN
  have BL8:=Hy (BL7.out.ext hxN);have BI8:=Hy (BI7.out.ext hxN)
  clear eL lL eI lI hcN hfN hsN CH LD7 hcell7 rcl7 BL7 BI7
  have eL:=BL8.out.cell;have lL:=BL8.out.lt;have eI:=BI8.out.cell;have lI:=BI8.out.lt
  by_cases hp2:P2=0
  rotate_left
  ·have hne:(P2==0)=false:=by rw[beq_eq_false_iff_ne];exact hp2
   have HEK:=Hy (show P2=E from by
    have h:EK=P2:=by rw[HATK.out];unfold f2;rw[if_pos rfl,if_neg hp2]
    rw[<-h];exact HFN.out (by rw[h];exact hp2))
   have HB8:=Hy (Blk.new wN 3 #[.int .i64 ((k+1:Nat):Int)])
   clear LD CO CF HFN HFX HATK HMK r0 hcell rl rcl
   go_wp2
   go_roundg (n - (k+1))
   case measure=>omega
   case rel=>exact⟨k+1,wN.heap.size,P2,V,by omega,Nat.le_refl _,rfl,rfl,HB8,Hy (fun _=>HEK.out),Hy (fun h=>absurd h hp2),Hy (fun h=>absurd h hp2),(hxr.trans hx8).alloc _⟩
  subst hp2
  have HAK2:=Hy (show EK=if T=true then 6 else 0 from by rw[HATK.out];unfold f2;rw[if_pos rfl,if_pos rfl])
  have r08:=hx8.cell r0
  have CFW:=Hy (fun W (h:Ext wN W)=>(CF.out #[.pointer (some ⟨w.heap.size,0,none⟩),.pointer (some ⟨gi,0,none⟩)] W (hx8.trans h) (fun q y1 e1 y2 e2 y3 e3 y4 e4 W2 hW2=>clM_any q y1 e1 y2 e2 y3 e3 y4 e4 w.heap.size gi b o n c k p.name W2 ((BL8.out.ext (h.trans hW2)).cell 0) ((BI8.out.ext (h.trans hW2)).cell 0) ((h.trans hW2).cell r08) hlt)).mono fun e w' hh=>(show e=.returned (.bool T)∧Ext W w' from hh))
  obtain⟨Z,hZ⟩:∃ Z,Z=(if T=true then (6:Int) else 0):=⟨_,rfl⟩
  have CWT:=Hy (fun W=>show Calls Tryz.prog 46 #[.bool T,.int .i64 6] W fun e w'=>e=.returned (.int .i64 Z)∧W=w' from by rw[hZ];exact When_any T 6 W)
  rw[<-hZ] at HAK2
  clear hZ CF HATK r0 hAN
  go_wp2_with fail
  refine (CFW.out _ Ext.au).mono ?_
  rintro e w9 ⟨rfl,hx9⟩
  go_wp2_with fail
  refine (CWT.out _).mono ?_
  rintro e w' ⟨rfl,rfl⟩
  have hx89:=hx8.trans hx9
  have BL9:=Hy (BL8.out.ext hx9);have BI9:=Hy (BI8.out.ext hx9)
  clear eL lL eI lI CFW CWT BL8 BI8 r08
  have eL:=BL9.out.cell;have lL:=BL9.out.lt;have eI:=BI9.out.cell;have lI:=BI9.out.lt
  have hcell9:=hx89.cell hcell
  have rcl9:=lt_of_cell hcell9
  have COW:=Hy (fun W (h:Ext w9 W)=>(CO.out (by trivial) (by trivial) W (hx89.trans h)).mono fun e w' hh=>(show ∃ A' cc,e=.returned (.slice A' ML.length cc)∧Hid (∃ B,W.heap.size<=B∧w'.ownsRow B 9 1 (.slice A' ML.length cc) ML.length (ML.map Value.string))∧Ext W w'∧Ext w9 w' from by
   obtain⟨v,B,h1,h2,h3,h4⟩:=hh
   obtain⟨A',cc,rfl,_,_⟩:=RdX.own h3 rfl
   exact⟨A',cc,h1,⟨B,h2,h3⟩,h4,h.trans h4⟩))
  obtain⟨q0,q1,q2,q3,q4,q5,q6,q7,q8,q9,_⟩:=HROW.out.ext (hxr.trans hx89)
  have dL:w9.cell? ⟨w.heap.size,0,none⟩=some (.slice (some ⟨b,o,none⟩) n c):=BL9.out.cell 0
  have dI:w9.cell? ⟨gi,0,none⟩=some (.int .i64 k):=BI9.out.cell 0
  have hql:=lt_of_cell q0
  have HOW9:=Hy (own_ext HOWN.out hx89)
  have HCL9:=Hy (HCLS.out.ext hx89)
  have hz5:=hxr.size
  have hz9:=hx89.size
  have hoB:=Hy (fun g h=>(HOW9.out.lt g h).2)
  clear CO LD eL eI
  go_wp2
  go_region_held3 (fun w'=>w'.cell? ⟨w.heap.size,0,none⟩=some (.slice (some ⟨b,o,none⟩) n c)∧w'.cell? ⟨gi,0,none⟩=some (.int .i64 k)∧w'.cell? ⟨b,o+k * 10,none⟩=some (.string p.name)∧w'.cell? ⟨b,o+k * 10+1,none⟩=some (.int .i64 p.vv.a1)∧w'.cell? ⟨b,o+k * 10+2,none⟩=some (.int .i64 p.vv.a2)∧w'.cell? ⟨b,o+k * 10+3,none⟩=some (.int .i64 p.vv.a3)∧w'.cell? ⟨b,o+k * 10+4,none⟩=some (.string p.vv.a)∧w'.cell? ⟨b,o+k * 10+5,none⟩=some (.string p.title)∧w'.cell? ⟨b,o+k * 10+6,none⟩=some (.slice A1' p.needs.length a1)∧w'.cell? ⟨b,o+k * 10+7,none⟩=some (.slice A2 p.bars.length a2)∧w'.cell? ⟨b,o+k * 10+8,none⟩=some (.slice A3 p.comps.length a3)∧w'.cell? ⟨b,o+k * 10+9,none⟩=some (.slice A4 p.moves.length a4)∧w'.cell? ⟨bb,bo+k,none⟩=some (.slice Ak nk ck))
   (first|exact⟨gL,gI,g0,g1,g2,g3,g4,g5,g6,g7,g8,g9,gc⟩|exact⟨hab.cell dL,hab.cell dI,hab.cell q0,hab.cell q1,hab.cell q2,hab.cell q3,hab.cell q4,hab.cell q5,hab.cell q6,hab.cell q7,hab.cell q8,hab.cell q9,hab.cell hcell9⟩|(go_keep;done))
   (first
   | (go_at_call 53;with_reducible refine (COW.out _ Ext.au).mono ?_;rintro e w' ⟨A',cc,rfl,hrow',hxh,hab⟩)
   | (refine step_appT _ _ rfl (by rfl) _ _ (by rfl) w5.heap.size _ k _ (by rfl) (own_ext HOW9.out hab) _ _ (by rfl) (by first|rfl|simp) (by omega) (Nat.le_trans (Nat.le_trans hz5 hz9) hab.size) ?_;intro v' wE hownE hgE hatE;(have hxal:Ext w' (w'.alloc (.cells #[.slice A' ML.length cc] 77)):=(Ext.refl w').alloc _);(have hown':=own_ext HOW9.out hab);(have hxE:Ext w5 wE:=(((hxr.trans hx89).trans hab).alloc _).grown (hown'.alloc _) (Nat.le_refl _) hgE);(have BIE:=Hy (((BI9.out.ext hab).ext hxal).turned hgE (own_ne_blk (hown'.alloc _) ((BI9.out.ext hab).ext hxal) (by decide))));(obtain⟨g0,g1,g2,g3,g4,g5,g6,g7,g8,g9,_⟩:=HROW.out.ext hxE);(have gL:=(BL.out.ext hxE).cell 0);(have gI:=BIE.out.cell 0);(have gc:=hxE.cell HCE5.out)))
  all_goals
   clear q0 q1 q2 q3 q4 q5 q6 q7 q8 q9 hql hcell9 rcl9 COW g0 g1 g2 g3 g4 g5 g6 g7 g8 g9 gL gI gc dL dI
   obtain⟨BB,hB1,hB2⟩:=hrow'.out
   rw[World.size_drew] at hB1
   have hcls':=HCL9.out.next hab hoB.out hB1 hB2 HMK.out
   have HCLE:=Hy ((hcls'.ext hxal).app hgE hatE (by rw[World.size_alloc];exact Nat.le_refl _))
   have HOWE:=Hy (show wE.ownsRow w5.heap.size 77 1 v' (k+1) ((List.range (k+1)).map (fun j=>if j=k then .slice A' ML.length cc else V j)) from by rw[vals_next];exact hownE)
   have HZN:=Hy (show ¬ Z=0->Z=E from fun h=>by rw[<-HAK2.out];exact HFN.out (by rw[HAK2.out];exact h))
   have HZY:=Hy (show Z=0->∀ j,j < k+1->clAt l ch j=0 from fun h=>HFX.out (by rw[HAK2.out];exact h))
   have HB8:=Hy (Blk.new wE 3 #[.int .i64 ((k+1:Nat):Int)])
   clear hownE hgE hatE hown' hcls' hxal hrow' hxh lL lI
   have eI:=BIE.out.cell;have lI:=BIE.out.lt
   go_wp2
   go_roundg (n - (k+1))
   case measure=>omega
   case rel=>exact⟨k+1,wE.heap.size,Z,_,by omega,Nat.le_refl _,rfl,rfl,HB8,HZN,Hy (fun h=>⟨by trivial,h100,HZY.out h⟩),Hy (fun _=>⟨own_ext HOWE.out ((Ext.refl wE).alloc _),HCLE.out.ext ((Ext.refl wE).alloc _)⟩),hxE.alloc _⟩
end Go.Proofs.YtmpccllnpcbgcaaGreatDoor
