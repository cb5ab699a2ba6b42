/- MergesMatch's comparison of offers, and slices.BinarySearchFunc by it. (Printed by gen/mgi.py.) -/
import Derived.Test.YtmnafaaijglnfaaGreatDoorMg31
namespace Go.Proofs.YtmnafaaijglnfaaGreatDoor
open Go.RowKit
structure OkO (o:Of):Prop extends SmallO o where
 ver:o.vv.err=0
theorem cb_eq:∀ a b:Str,Lib.compareBytes a b=0->a=b
 | [],[],_=>rfl
 | [],_::_,h=>by simp[Lib.compareBytes] at h
 | _::_,[],h=>by simp[Lib.compareBytes] at h
 | x::a,y::b,h=>by
   unfold Lib.compareBytes at h
   by_cases h1:x < y
   ·rw[if_pos h1] at h;cases h
   ·rw[if_neg h1] at h
    by_cases h2:y < x
    ·rw[if_pos h2] at h;cases h
    ·rw[if_neg h2] at h
     rw[UInt8.le_antisymm (UInt8.not_lt.1 h2) (UInt8.not_lt.1 h1),cb_eq a b h]
set_option maxHeartbeats 4000000 in
set_option maxRecDepth 100000 in
theorem cmpLaw_any (p o:Of) (A:Option Addr) (c:Nat) (k:Int) (n x:ByteArray) (A2:Option Addr) (m c2:Nat) (A':Option Addr) (c':Nat) (k':Int) (n' x':ByteArray) (A2':Option Addr) (m' c2':Nat) (w:World) (hg:GoodN w) (hp:OkO p) (ho:OkO o) :
 Calls Tryz.prog 43 #[ofV p A c k n x A2 m c2,ofV o A' c' k' n' x' A2' m' c2'] w fun e w'=>e=.returned (.int .i64 (ofCmp p o))∧Ext w w':=by
 have C1:=Hy (fun W=>compare_any p.name o.name W)
 have C2:=Hy (fun W (h:Ext w W)=>CompareOf_any p.vv.a1 p.vv.a2 p.vv.a3 o.vv.a1 o.vv.a2 o.vv.a3 p.vv.a o.vv.a W (hg.ext h) hp.vv ho.vv hp.ver ho.ver)
 have HE0:=Hy (show (p.name.toList==o.name.toList)=true->ofCmp p o=orderL p.vv.a1 p.vv.a2 p.vv.a3 (bs p.vv.a) o.vv.a1 o.vv.a2 o.vv.a3 (bs o.vv.a) from fun h=>by
  rw[ByteArray.toList_eq,ByteArray.toList_eq,beq_iff_eq] at h
  unfold ofCmp
  rw[show bs p.name=bs o.name from h,if_pos (compareBytes_self _)])
 have HE1:=Hy (show (p.name.toList==o.name.toList)=false->ofCmp p o=Lib.compareBytes (bs p.name) (bs o.name) from fun h=>by
  rw[ByteArray.toList_eq,ByteArray.toList_eq] at h
  unfold ofCmp
  rw[if_neg (fun e=>by rw[show p.name.data.toList=o.name.data.toList from cb_eq _ _ e] at h;simp at h)])
 clear hp ho hg
 generalize ofCmp p o=E at *
 generalize Lib.compareBytes (bs p.name) (bs o.name)=Z at *
 generalize orderL p.vv.a1 p.vv.a2 p.vv.a3 (bs p.vv.a) o.vv.a1 o.vv.a2 o.vv.a3 (bs o.vv.a)=O at *
 obtain⟨pn,⟨p1,p2,p3,pa⟩,ps,pf,pw,pd,pb,pt,pg,ph,pu,pk⟩:=p
 obtain⟨on,⟨o1,o2,o3,oa⟩,os,of_,ow,od,ob,ot,og,oh,ou,ok⟩:=o
 dsimp only[ofV] at *
 generalize pf.length=pl at *
 generalize of_.length=ol at *
 have b1:=(Blk.new w 66 #[.string pn,.int .i64 p1,.int .i64 p2,.int .i64 p3,.string pa,.string ps,.slice A pl c,.bool pw,.int .i64 k,.string n,.string x,.slice A2 m c2,.int .i64 pb,.int .i64 pt,.int .i64 pg,.bool ph,.bool pu,.bool pk]).alloc (.cells #[.string on,.int .i64 o1,.int .i64 o2,.int .i64 o3,.string oa,.string os,.slice A' ol c',.bool ow,.int .i64 k',.string n',.string x',.slice A2' m' c2',.int .i64 ob,.int .i64 ot,.int .i64 og,.bool oh,.bool ou,.bool ok] 66)
 have b2:=Blk.new (w.alloc (.cells #[.string pn,.int .i64 p1,.int .i64 p2,.int .i64 p3,.string pa,.string ps,.slice A pl c,.bool pw,.int .i64 k,.string n,.string x,.slice A2 m c2,.int .i64 pb,.int .i64 pt,.int .i64 pg,.bool ph,.bool pu,.bool pk] 66)) 66 #[.string on,.int .i64 o1,.int .i64 o2,.int .i64 o3,.string oa,.string os,.slice A' ol c',.bool ow,.int .i64 k',.string n',.string x',.slice A2' m' c2',.int .i64 ob,.int .i64 ot,.int .i64 og,.bool oh,.bool ou,.bool ok]
 rw[World.size_alloc] at b2
 have hx0:Ext w ((w.alloc (.cells #[.string pn,.int .i64 p1,.int .i64 p2,.int .i64 p3,.string pa,.string ps,.slice A pl c,.bool pw,.int .i64 k,.string n,.string x,.slice A2 m c2,.int .i64 pb,.int .i64 pt,.int .i64 pg,.bool ph,.bool pu,.bool pk] 66)).alloc (.cells #[.string on,.int .i64 o1,.int .i64 o2,.int .i64 o3,.string oa,.string os,.slice A' ol c',.bool ow,.int .i64 k',.string n',.string x',.slice A2' m' c2',.int .i64 ob,.int .i64 ot,.int .i64 og,.bool oh,.bool ou,.bool ok] 66)):=((Ext.refl w).alloc _).alloc _
 have e1:=b1.cell;have e2:=b2.cell;have l1:=b1.lt;have l2:=b2.lt
 clear b1 b2
 go_enter Tryz.func43,Tryz.ntmps43
 by_cases hq:(pn.toList==on.toList)=true
 ·have HF:=Hy (HE0.out hq)
  go_wp2_with fail
  refine (C2.out _ hx0).mono ?_
  rintro e w1 ⟨rfl,hx1⟩
  go_wp2
  go_ret
  exact⟨ret_int HF.out.symm,hx0.trans hx1⟩
 ·have hq2:(pn.toList==on.toList)=false:=by simpa using hq
  have HF:=Hy (HE1.out hq2)
  clear hq
  go_wp2_with fail
  refine (C1.out _).mono ?_
  rintro e w' ⟨rfl,rfl⟩
  go_wp2
  go_ret
  exact⟨ret_int HF.out.symm,hx0⟩
set_option maxHeartbeats 8000000 in
set_option maxRecDepth 100000 in
theorem BinL_any (l:List Of) (AL:Option Addr) (nL cL:Nat) (o:Of) (A:Option Addr) (c:Nat) (k:Int) (n x:ByteArray) (A2:Option Addr) (m c2:Nat) (w:World) (hg:GoodN w) (hn:l.length=nL) (hr:RdO w AL l) (hs:∀ p∈l,OkO p) (hso:OkO o) (hl:nL<=2097152) :
 Calls Tryz.prog 42 #[.slice AL nL cL,ofV o A c k n x A2 m c2,.func (.func 43) #[] #[]] w fun e w' =>
  e=.returned (.tuple #[.int .i64 (ofBs l o),.bool (ofHas l o)])∧Ext w w':=by
 have hen:∀ xs w,Sem.run Tryz.prog (callFunc 43 xs) w=.ok (.enter 43 xs) w:=enters_of Tryz.func43 (by kernel_rfl) rfl
 obtain⟨Z,hZ⟩:∃ Z:Nat->Int,Z=ofZ l o:=⟨_,rfl⟩
 have CC:=Hy (fun h (hh:h < l.length) A1 c1 k1 n1 x1 B1 m1 d1 W (hx:Ext w W)=>show Calls Tryz.prog 43 #[ofV l[h] A1 c1 k1 n1 x1 B1 m1 d1,ofV o A c k n x A2 m c2] W fun e w'=>e=.returned (.int .i64 (Z h))∧Ext W w' from by
  rw[hZ,ofZ_at hh];exact cmpLaw_any l[h] o A1 c1 k1 n1 x1 B1 m1 d1 A c k n x A2 m c2 W (hg.ext hx) (hs _ (List.getElem_mem hh)) hso)
 obtain⟨R,hR⟩:∃ R:Nat,R=ofBs l o:=⟨_,rfl⟩
 have H0:=Hy (show bsR Z 0 nL=R from by rw[hR,hZ,<-hn];rfl)
 have HH:=Hy (show ofHas l o=decide (R < nL∧Z R=0) from by rw[hR,hZ,<-hn];rfl)
 rw[<-hR]
 have HN:=Hy hn
 have HR:=Hy hr
 clear hn hr hs hso hg hZ hR
 generalize ofHas l o=Y at *
 obtain⟨on,⟨o1,o2,o3,oa⟩,os,of_,ow,od,ob,ot,og,oh,ou,ok⟩:=o
 dsimp only[ofV] at *
 generalize of_.length=ol at *
 have b0:=Blk.new w 66 #[.string on,.int .i64 o1,.int .i64 o2,.int .i64 o3,.string oa,.string os,.slice A ol c,.bool ow,.int .i64 k,.string n,.string x,.slice A2 m c2,.int .i64 ob,.int .i64 ot,.int .i64 og,.bool oh,.bool ou,.bool ok]
 have hx0:Ext w (w.alloc (.cells #[.string on,.int .i64 o1,.int .i64 o2,.int .i64 o3,.string oa,.string os,.slice A ol c,.bool ow,.int .i64 k,.string n,.string x,.slice A2 m c2,.int .i64 ob,.int .i64 ot,.int .i64 og,.bool oh,.bool ou,.bool ok] 66)):=(Ext.refl w).alloc _
 go_enter Tryz.func42,Tryz.ntmps42
 go_wp2
 go_loopg [9,10] nL (fun kx s9 s10 wr=>∃ lo hi:Nat,s9=.int .i64 lo∧s10=.int .i64 hi∧lo<=hi∧hi<=nL∧hi - lo<=kx∧Ext (w.alloc (.cells #[.string on,.int .i64 o1,.int .i64 o2,.int .i64 o3,.string oa,.string os,.slice A ol c,.bool ow,.int .i64 k,.string n,.string x,.slice A2 m c2,.int .i64 ob,.int .i64 ot,.int .i64 og,.bool oh,.bool ou,.bool ok] 66)) wr∧Hid (bsR Z lo hi=R))
 case atStart=>exact⟨0,nL,rfl,rfl,Nat.zero_le _,Nat.le_refl _,by omega,Ext.refl _,H0⟩
 case round =>
  obtain⟨lo,hi,rfl,rfl,hlh,hin,hgg,hxr,I⟩:=hrel
  have hxw:=hx0.trans hxr
  have LB:∀ W,Ext wr W->(loadVar 66 ⟨w.heap.size,0,none⟩).run Tryz.prog W=_:=fun W h=>load_blk (b0.ext (hxr.trans h)) rfl
  have l0:=(b0.ext hxr).lt
  by_cases hlt:lo < hi
  ·obtain⟨h,hh⟩:∃ h:Nat,h=(lo+hi) / 2:=⟨_,rfl⟩
   have HH2:=Hy hh
   have hh2:((lo:Int)+(hi:Int)) / 2=(h:Int):=by omega
   have hlo:lo<=h:=by omega
   have hhi:h < hi:=by omega
   have hhn:h < nL:=by omega
   have hk1:h < l.length:=by rw[HN.out];exact hhn
   obtain⟨b,i0,rfl,hX⟩:=HR.out (fun e=>by rw[e] at hk1;exact absurd hk1 (Nat.not_lt_zero _))
   obtain⟨A1,d1,kk,nn,xx,B2,mm,dd,hrow⟩:=hX h hk1
   have LD:∀ W,Ext wr W->(loadVar 66 ⟨b,i0+h * 18,none⟩).run Tryz.prog W=_:=fun W hq=>load_row (hrow.ext (hxw.trans hq))
   have CK:=Hy (fun W (hx:Ext w W)=>CC.out h hk1 A1 d1 kk nn xx B2 mm dd W hx)
   clear hX hh hrow
   generalize l[h]=y at *
   obtain⟨pn,⟨p1,p2,p3,pa⟩,ps,pf,pw,pd,pb,pt,pg,ph,pu,pk⟩:=y
   dsimp only[ofV] at LD CK
   generalize pf.length=pl at *
   have HZZ:=Hy (show (Z h < 0->bsR Z (h+1) hi=R)∧(¬ Z h < 0->bsR Z lo h=R) from
    ⟨fun hz=>(bsR_up hlt HH2.out hz).symm.trans I.out,fun hz=>(bsR_down hlt HH2.out hz).symm.trans I.out⟩)
   generalize Z h=z at *
   by_cases hyx:z < 0
   ·have HB2:=Hy (HZZ.out.1 hyx)
    clear HZZ
    go_wp2_with fail
    refine wp_region_ext (by kernel_rfl) (by kernel_rfl) ?_
    repeat (first|go_big_quiet_skip|(refine wpQuiet_load (by rfl) _ _ rfl _ rfl _ LD ?_)|(refine wpQuiet_load (by rfl) _ _ rfl _ rfl _ LB ?_)|(refine wpQuiet_step (fun K hK=>?_);go_simp;first|(refine hK _ ?_;clear hK K)|(apply Exists.intro;refine⟨fun wq hwq=>?_,hK _ ?_⟩;(obtain⟨hqc,hqf⟩:=hwq.cells;have hqs:=hwq.size;(try go_simp);first|rfl|((first|rw[if_neg (by omega)]|rw[if_pos (by omega)]);(try go_simp);rfl)|((go_at_call 43;exact (CK.out _ (hx0.trans (hxr.trans hwq))).mono (fun e w'' h=>⟨h.1,hwq.trans h.2⟩))));clear hK K)))
    refine wpQuiet_nil ?_
    intro wN hxN
    obtain⟨hcN,hfN⟩:=hxN.cells
    have hsN:=hxN.size
    have hx1':=hxr.trans hxN
    clear LD LB l0 hcN hfN hsN
    go_wp2
    go_roundg (hi - (h+1))
    case measure=>omega
    case rel=>exact⟨h+1,hi,by go_num,rfl,by omega,hin,Nat.le_refl _,hx1',HB2⟩
   ·have HB2:=Hy (HZZ.out.2 hyx)
    clear HZZ
    go_wp2_with fail
    refine wp_region_ext (by kernel_rfl) (by kernel_rfl) ?_
    repeat (first|go_big_quiet_skip|(refine wpQuiet_load (by rfl) _ _ rfl _ rfl _ LD ?_)|(refine wpQuiet_load (by rfl) _ _ rfl _ rfl _ LB ?_)|(refine wpQuiet_step (fun K hK=>?_);go_simp;first|(refine hK _ ?_;clear hK K)|(apply Exists.intro;refine⟨fun wq hwq=>?_,hK _ ?_⟩;(obtain⟨hqc,hqf⟩:=hwq.cells;have hqs:=hwq.size;(try go_simp);first|rfl|((first|rw[if_neg (by omega)]|rw[if_pos (by omega)]);(try go_simp);rfl)|((go_at_call 43;exact (CK.out _ (hx0.trans (hxr.trans hwq))).mono (fun e w'' h=>⟨h.1,hwq.trans h.2⟩))));clear hK K)))
    refine wpQuiet_nil ?_
    intro wN hxN
    obtain⟨hcN,hfN⟩:=hxN.cells
    have hsN:=hxN.size
    have hx1':=hxr.trans hxN
    clear LD LB l0 hcN hfN hsN
    go_wp2
    go_roundg (h - lo)
    case measure=>omega
    case rel=>exact⟨lo,h,rfl,rfl,hlo,by omega,Nat.le_refl _,hx1',HB2⟩
  ·obtain rfl:lo=hi:=by omega
   have HL:=Hy (show lo=R from by have:=I.out;rwa [bsR_stop (by omega)] at this)
   by_cases hn:lo < nL
   ·have hk1:lo < l.length:=by rw[HN.out];exact hn
    obtain⟨b,i0,rfl,hX⟩:=HR.out (fun e=>by rw[e] at hk1;exact absurd hk1 (Nat.not_lt_zero _))
    obtain⟨A1,d1,kk,nn,xx,B2,mm,dd,hrow⟩:=hX lo hk1
    have LD:∀ W,Ext wr W->(loadVar 66 ⟨b,i0+lo * 18,none⟩).run Tryz.prog W=_:=fun W hq=>load_row (hrow.ext (hxw.trans hq))
    have CK:=Hy (fun W (hx:Ext w W)=>CC.out lo hk1 A1 d1 kk nn xx B2 mm dd W hx)
    have HFIN:=Hy (show Y=decide (Z lo=0) from by rw[HH.out,<-HL.out];simp[hn])
    clear hX hrow
    generalize l[lo]=y at *
    obtain⟨pn,⟨p1,p2,p3,pa⟩,ps,pf,pw,pd,pb,pt,pg,ph,pu,pk⟩:=y
    dsimp only[ofV] at LD CK
    generalize pf.length=pl at *
    generalize Z lo=z at *
    by_cases hz:z=0
    ·have HF:=Hy (show true=Y from by rw[HFIN.out];simp[hz])
     go_wp2_with fail
     refine wp_region_ext (by kernel_rfl) (by kernel_rfl) ?_
     repeat (first|go_big_quiet_skip|(refine wpQuiet_load (by rfl) _ _ rfl _ rfl _ LD ?_)|(refine wpQuiet_load (by rfl) _ _ rfl _ rfl _ LB ?_)|(refine wpQuiet_step (fun K hK=>?_);go_simp;first|(refine hK _ ?_;clear hK K)|(apply Exists.intro;refine⟨fun wq hwq=>?_,hK _ ?_⟩;(obtain⟨hqc,hqf⟩:=hwq.cells;have hqs:=hwq.size;(try go_simp);first|rfl|((first|rw[if_neg (by omega)]|rw[if_pos (by omega)]);(try go_simp);rfl)|((go_at_call 43;exact (CK.out _ (hx0.trans (hxr.trans hwq))).mono (fun e w'' h=>⟨h.1,hwq.trans h.2⟩))));clear hK K)))
     refine wpQuiet_nil ?_
     intro wN hxN
     obtain⟨hcN,hfN⟩:=hxN.cells
     have hsN:=hxN.size
     have hx1':=hxw.trans hxN
     clear LD LB l0 hcN hfN hsN
     go_wp2
     go_ret2
     exact⟨by rw[<-HL.out,<-HF.out];simp,hx1'⟩
    ·have HF:=Hy (show false=Y from by rw[HFIN.out];simp[hz])
     go_wp2_with fail
     refine wp_region_ext (by kernel_rfl) (by kernel_rfl) ?_
     repeat (first|go_big_quiet_skip|(refine wpQuiet_load (by rfl) _ _ rfl _ rfl _ LD ?_)|(refine wpQuiet_load (by rfl) _ _ rfl _ rfl _ LB ?_)|(refine wpQuiet_step (fun K hK=>?_);go_simp;first|(refine hK _ ?_;clear hK K)|(apply Exists.intro;refine⟨fun wq hwq=>?_,hK _ ?_⟩;(obtain⟨hqc,hqf⟩:=hwq.cells;have hqs:=hwq.size;(try go_simp);first|rfl|((first|rw[if_neg (by omega)]|rw[if_pos (by omega)]);(try go_simp);rfl)|((go_at_call 43;exact (CK.out _ (hx0.trans (hxr.trans hwq))).mono (fun e w'' h=>⟨h.1,hwq.trans h.2⟩))));clear hK K)))
     refine wpQuiet_nil ?_
     intro wN hxN
     obtain⟨hcN,hfN⟩:=hxN.cells
     have hsN:=hxN.size
     have hx1':=hxw.trans hxN
     clear LD LB l0 hcN hfN hsN
     go_wp2
     go_ret2
     exact⟨by rw[<-HL.out,<-HF.out];simp[hz],hx1'⟩
   ·have HF:=Hy (show false=Y from by rw[HH.out,<-HL.out];simp[hn])
    go_wp2_with fail
    refine wp_region_ext (by kernel_rfl) (by kernel_rfl) ?_
    repeat (first|go_big_quiet_skip|(refine wpQuiet_step (fun K hK=>?_);go_simp;first|(refine hK _ ?_;clear hK K)|(apply Exists.intro;refine⟨fun wq hwq=>?_,hK _ ?_⟩;(obtain⟨hqc,hqf⟩:=hwq.cells;have hqs:=hwq.size;(try go_simp);first|rfl|((first|rw[if_neg (by omega)]|rw[if_pos (by omega)]);(try go_simp);rfl)|((fail)));clear hK K)))
    refine wpQuiet_nil ?_
    intro wN hxN
    obtain⟨hcN,hfN⟩:=hxN.cells
    have hsN:=hxN.size
    go_wp2
    go_ret2
    exact⟨by rw[<-HL.out,<-HF.out];simp,hxw.trans hxN⟩
end Go.Proofs.YtmnafaaijglnfaaGreatDoor
