/- Contract of outref2.OfferError. -/
import Derived.Test.YtmnafaaijglnfaaGreatDoorOm27
namespace Go.Proofs.YtmnafaaijglnfaaGreatDoor
open Go.RowKit
set_option maxHeartbeats 16000000 in
set_option maxRecDepth 100000 in
theorem OfferError_any (o:Of) (A:Option Addr) (c:Nat) (k:Int) (n x:ByteArray) (A2:Option Addr) (m c2:Nat) (w:World) (hg:GoodN w) (hi:OfIn AnyB w o A k n x A2 m c2) (hs:SmallO o) :
 Calls Tryz.prog 47 #[ofV o A c k n x A2 m c2] w fun e w'=>e=.returned (.int .i64 (ofErr o))∧Ext w w':=by
 have CNE:=Hy (fun W=>NameOf_any o.name W hs.name)
 have CRE:=Hy (fun W (h:Ext w W)=>(RangeError_any A o.fr.length c o.fr W (hg.ext h) rfl (hi.1.rd.ext h) hs.fr hs.len))
 have CCE:=Hy (fun W (h:Ext w W)=>(CondError_any o.wh (.agg #[.int .i64 k,.string n,.string x,.slice A2 m c2]) AnyB W (hg.ext h) (hi.2.ext h) hs.wh hs.cnt))
 have CVE:=Hy (show ∀ b cp W,Ext w W->VerS W b [o.vv]->Calls Tryz.prog 10 #[.slice (some ⟨b,0,none⟩) 1 cp] W fun e w'=>e=.returned (.int .i64 o.vv.err)∧Ext W w' from fun b cp W h hv=>by
  have:=VersionError_any b cp [o.vv] W (hg.toGood.ext h) hv (by intro v hv;rw[List.mem_singleton] at hv;subst hv;exact hs.vv) (by simp)
  have e:firstI ([o.vv].map V4.err)=o.vv.err:=by
   simp only[List.map_cons,List.map_nil,firstI]
   split<;>simp_all
  rw[e] at this
  exact this)
 have CHX:=Hy (fun W=>of_hex o.sum W hs.sum)
 have HSL:=Hy (show sumL (bs o.sum)=((bs o.sum).all hexB&&decide (o.sum.size=16)) from by unfold sumL;rw[bs_length])
 have CI1:=Hy (show ∀ W,Calls Tryz.prog 58 #[.int .i64 o.bg,.int .i64 0,.int .i64 1099511627776] W fun e w'=>e=.returned (.bool (inI o.bg 0 1099511627776))∧W=w' from fun W=>(In_any o.bg 0 1099511627776 W).mono fun e w' h=>⟨h.1.trans (ret_bool (by simp[inI])),h.2⟩)
 have CI2:=Hy (show ∀ W,Calls Tryz.prog 58 #[.int .i64 o.st,.int .i64 0,.int .i64 1000] W fun e w'=>e=.returned (.bool (inI o.st 0 1000))∧W=w' from fun W=>(In_any o.st 0 1000 W).mono fun e w' h=>⟨h.1.trans (ret_bool (by simp[inI])),h.2⟩)
 have CI3:=Hy (show ∀ W,Calls Tryz.prog 58 #[.int .i64 o.gr,.int .i64 0,.int .i64 1000] W fun e w'=>e=.returned (.bool (inI o.gr 0 1000))∧W=w' from fun W=>(In_any o.gr 0 1000 W).mono fun e w' h=>⟨h.1.trans (ret_bool (by simp[inI])),h.2⟩)
 have HE:=Hy (show ofErr o=firstI [(if nameL (bs o.name)=true then 0 else 5),o.vv.err,(if sumL (bs o.sum)=true then 0 else 2),rngErr o.fr,checkC o.wh,(if (inI o.bg 0 1099511627776&&inI o.st 0 1000&&inI o.gr 0 1000)=true then 0 else 3)] from rfl)
 clear hg hi hs
 generalize ofErr o=E at *
 generalize sumL (bs o.sum)=Q2 at *
 generalize (bs o.sum).all hexB=Q0 at *
 generalize nameL (bs o.name)=Q1 at *
 generalize o.vv.err=E1 at *
 generalize rngErr o.fr=E2 at *
 generalize checkC o.wh=E3 at *
 generalize inI o.bg 0 1099511627776=I1 at *
 generalize inI o.st 0 1000=I2 at *
 generalize inI o.gr 0 1000=I3 at *
 obtain⟨on,⟨o1,o2,o3,oa⟩,os,of_,ow,od,ob,ot,og,oh,ou,ok⟩:=o
 dsimp only[ofV] at *
 generalize of_.length=ol at *
 obtain⟨X1,hX1⟩:∃ X,(if Q1=true then (0:Int) else 5)=X:=⟨_,rfl⟩
 obtain⟨X2,hX2⟩:∃ X,(if Q2=true then (0:Int) else 2)=X:=⟨_,rfl⟩
 obtain⟨X3,hX3⟩:∃ X,(if (I1&&I2&&I3)=true then (0:Int) else 3)=X:=⟨_,rfl⟩
 rw[hX1,hX2,hX3] at HE
 have CW1:=Hy (show ∀ W,Calls Tryz.prog 38 #[.bool (!Q1),.int .i64 5] W fun e w'=>e=.returned (.int .i64 X1)∧W=w' from fun W=>(When_any (!Q1) 5 W).mono fun e w' h=>⟨h.1.trans (ret_int (by rw[<-hX1];cases Q1<;>rfl)),h.2⟩)
 have CW2:=Hy (show ∀ W,Calls Tryz.prog 38 #[.bool (!Q2),.int .i64 2] W fun e w'=>e=.returned (.int .i64 X2)∧W=w' from fun W=>(When_any (!Q2) 2 W).mono fun e w' h=>⟨h.1.trans (ret_int (by rw[<-hX2];cases Q2<;>rfl)),h.2⟩)
 have CW3:=Hy (show ∀ W,Calls Tryz.prog 38 #[.bool (!(I1&&I2&&I3)),.int .i64 3] W fun e w'=>e=.returned (.int .i64 X3)∧W=w' from fun W=>(When_any (!(I1&&I2&&I3)) 3 W).mono fun e w' h=>⟨h.1.trans (ret_int (by rw[<-hX3];cases (I1&&I2&&I3)<;>rfl)),h.2⟩)
 clear hX1 hX2 hX3
 have b0:=Blk.new w 66 #[.string on,.int .i64 o1,.int .i64 o2,.int .i64 o3,.string oa,.string os,.slice A ol c,.bool ow,.int .i64 k,.string n,.string x,.slice A2 m c2,.int .i64 ob,.int .i64 ot,.int .i64 og,.bool oh,.bool ou,.bool ok]
 have hx0:Ext w (w.alloc (.cells #[.string on,.int .i64 o1,.int .i64 o2,.int .i64 o3,.string oa,.string os,.slice A ol c,.bool ow,.int .i64 k,.string n,.string x,.slice A2 m c2,.int .i64 ob,.int .i64 ot,.int .i64 og,.bool oh,.bool ou,.bool ok] 66)):=(Ext.refl w).alloc _
 have CFI:=Hy (fun b cp W (h:∀ k (hk:k < [X1,E1,X2,E2,E3,X3].length),World.cell? W ⟨b,k,none⟩=some (.int .i64 [X1,E1,X2,E2,E3,X3][k]))=>First_any b cp [X1,E1,X2,E2,E3,X3] W h (by simp))
 rw[<-HE.out] at CFI
 by_cases h16:(os.size:Int)=16
 ·have HQ:=Hy (show Q2=Q0 from by rw[HSL.out,decide_eq_true (by omega:os.size=16),Bool.and_true])
  go_enter Tryz.func47,Tryz.ntmps47
  go_wp2_with fail
  refine (CHX.out _).mono ?_
  rw[<-HQ.out]
  rintro e w1 ⟨rfl,hx1'⟩
  have b1:=b0.ext hx1'
  have hx1:=hx0.trans hx1'
  clear h16 HQ CHX HSL hx1' hx0 b0
  have e1:=b1.cell
  have dl:=b1.lt
  cases I1
  case false =>
   simp only[Bool.false_and,Bool.not_false] at CW2 CW3 CI1 CI2 CI3
   go_wp2
   refine wp_region_grow (by kernel_rfl) (by kernel_rfl) ?_
   apply Exists.intro
   repeat (first|(apply grow_skip;(focus exact rfl);(try simp only[Act.put,List.setIfInBounds_toArray,List.set_cons_zero,List.set_cons_succ]))|(apply grow_one;(focus exact rfl);(focus (intro wq hwq;(obtain⟨hqc,hqf⟩:=hwq.ext.cells);have hqs:=hwq.ext.size;unfold Oper.quietAt;(try go_simp);first|rfl|(first
    | (go_at_call 19;exact CNE.out _)
    | (go_at_call 29;exact CRE.out _ (hx1.trans hwq.ext))
    | (go_at_call 105;exact CCE.out _ (hx1.trans hwq.ext))
    | (go_at_call 10;have hb:=hwq.blk 7 rfl rfl;exact CVE.out _ _ _ (hx1.trans hwq.ext) (VerS.one (hb.cell 0) (hb.cell 1) (hb.cell 2) (hb.cell 3)))
    | (go_at_call 58;first|with_reducible exact callsExt (CI1.out _)|with_reducible exact callsExt (CI2.out _)|with_reducible exact callsExt (CI3.out _))
    | (go_at_call 38;first|with_reducible exact callsExt (CW1.out _)|with_reducible exact callsExt (CW2.out _)|with_reducible exact callsExt (CW3.out _))
    | (go_at_call 11;have hb:=hwq.blk 35 rfl rfl;exact (CFI.out _ _ _ (by intro k hk;rw[hb.cell];match k,hk with|0,_=>rfl|1,_=>rfl|2,_=>rfl|3,_=>rfl|4,_=>rfl|5,_=>rfl)).mono fun e w' h=>⟨h.1,h.2 ▸ Ext.refl _⟩))));(try simp only[Act.put,List.setIfInBounds_toArray,List.set_cons_zero,List.set_cons_succ]))|(apply grow_build;(focus exact rfl);(focus (intro wq;go_simp;first|exact⟨⟨rfl,rfl⟩,rfl⟩|exact⟨rfl,rfl⟩|rfl));intro b;(try simp only[Act.put,List.setIfInBounds_toArray,List.set_cons_zero,List.set_cons_succ])))
   refine grow_nil ?_
   intro wN hxN hFN
   go_wp2
   go_ret
   exact⟨rfl,hx1.trans hxN⟩
  case true =>
   cases I2
   case false =>
    simp only[Bool.and_false,Bool.false_and,Bool.not_false] at CW2 CW3 CI1 CI2 CI3
    go_wp2
    refine wp_region_grow (by kernel_rfl) (by kernel_rfl) ?_
    apply Exists.intro
    repeat (first|(apply grow_skip;(focus exact rfl);(try simp only[Act.put,List.setIfInBounds_toArray,List.set_cons_zero,List.set_cons_succ]))|(apply grow_one;(focus exact rfl);(focus (intro wq hwq;(obtain⟨hqc,hqf⟩:=hwq.ext.cells);have hqs:=hwq.ext.size;unfold Oper.quietAt;(try go_simp);first|rfl|(first
     | (go_at_call 19;exact CNE.out _)
     | (go_at_call 29;exact CRE.out _ (hx1.trans hwq.ext))
     | (go_at_call 105;exact CCE.out _ (hx1.trans hwq.ext))
     | (go_at_call 10;have hb:=hwq.blk 7 rfl rfl;exact CVE.out _ _ _ (hx1.trans hwq.ext) (VerS.one (hb.cell 0) (hb.cell 1) (hb.cell 2) (hb.cell 3)))
     | (go_at_call 58;first|with_reducible exact callsExt (CI1.out _)|with_reducible exact callsExt (CI2.out _)|with_reducible exact callsExt (CI3.out _))
     | (go_at_call 38;first|with_reducible exact callsExt (CW1.out _)|with_reducible exact callsExt (CW2.out _)|with_reducible exact callsExt (CW3.out _))
     | (go_at_call 11;have hb:=hwq.blk 35 rfl rfl;exact (CFI.out _ _ _ (by intro k hk;rw[hb.cell];match k,hk with|0,_=>rfl|1,_=>rfl|2,_=>rfl|3,_=>rfl|4,_=>rfl|5,_=>rfl)).mono fun e w' h=>⟨h.1,h.2 ▸ Ext.refl _⟩))));(try simp only[Act.put,List.setIfInBounds_toArray,List.set_cons_zero,List.set_cons_succ]))|(apply grow_build;(focus exact rfl);(focus (intro wq;go_simp;first|exact⟨⟨rfl,rfl⟩,rfl⟩|exact⟨rfl,rfl⟩|rfl));intro b;(try simp only[Act.put,List.setIfInBounds_toArray,List.set_cons_zero,List.set_cons_succ])))
    refine grow_nil ?_
    intro wN hxN hFN
    go_wp2
    go_ret
    exact⟨rfl,hx1.trans hxN⟩
   case true =>
    simp only[Bool.true_and,Bool.and_true] at CW2 CW3 CI1 CI2 CI3
    go_wp2
    refine wp_region_grow (by kernel_rfl) (by kernel_rfl) ?_
    apply Exists.intro
    repeat (first|(apply grow_skip;(focus exact rfl);(try simp only[Act.put,List.setIfInBounds_toArray,List.set_cons_zero,List.set_cons_succ]))|(apply grow_one;(focus exact rfl);(focus (intro wq hwq;(obtain⟨hqc,hqf⟩:=hwq.ext.cells);have hqs:=hwq.ext.size;unfold Oper.quietAt;(try go_simp);first|rfl|(first
     | (go_at_call 19;exact CNE.out _)
     | (go_at_call 29;exact CRE.out _ (hx1.trans hwq.ext))
     | (go_at_call 105;exact CCE.out _ (hx1.trans hwq.ext))
     | (go_at_call 10;have hb:=hwq.blk 7 rfl rfl;exact CVE.out _ _ _ (hx1.trans hwq.ext) (VerS.one (hb.cell 0) (hb.cell 1) (hb.cell 2) (hb.cell 3)))
     | (go_at_call 58;first|with_reducible exact callsExt (CI1.out _)|with_reducible exact callsExt (CI2.out _)|with_reducible exact callsExt (CI3.out _))
     | (go_at_call 38;first|with_reducible exact callsExt (CW1.out _)|with_reducible exact callsExt (CW2.out _)|with_reducible exact callsExt (CW3.out _))
     | (go_at_call 11;have hb:=hwq.blk 35 rfl rfl;exact (CFI.out _ _ _ (by intro k hk;rw[hb.cell];match k,hk with|0,_=>rfl|1,_=>rfl|2,_=>rfl|3,_=>rfl|4,_=>rfl|5,_=>rfl)).mono fun e w' h=>⟨h.1,h.2 ▸ Ext.refl _⟩))));(try simp only[Act.put,List.setIfInBounds_toArray,List.set_cons_zero,List.set_cons_succ]))|(apply grow_build;(focus exact rfl);(focus (intro wq;go_simp;first|exact⟨⟨rfl,rfl⟩,rfl⟩|exact⟨rfl,rfl⟩|rfl));intro b;(try simp only[Act.put,List.setIfInBounds_toArray,List.set_cons_zero,List.set_cons_succ])))
    refine grow_nil ?_
    intro wN hxN hFN
    go_wp2
    go_ret
    exact⟨rfl,hx1.trans hxN⟩
 ·have HQ:=Hy (show Q2=false from by rw[HSL.out,decide_eq_false (by omega:¬ os.size=16),Bool.and_false])
  obtain rfl:Q2=false:=HQ.out
  have hx1:=hx0
  have e1:=b0.cell
  have dl:=b0.lt
  clear HQ CHX HSL
  go_enter Tryz.func47,Tryz.ntmps47
  go_wp2_with fail
  cases I1
  case false =>
   simp only[Bool.false_and,Bool.not_false] at CW2 CW3 CI1 CI2 CI3
   go_wp2
   refine wp_region_grow (by kernel_rfl) (by kernel_rfl) ?_
   apply Exists.intro
   repeat (first|(apply grow_skip;(focus exact rfl);(try simp only[Act.put,List.setIfInBounds_toArray,List.set_cons_zero,List.set_cons_succ]))|(apply grow_one;(focus exact rfl);(focus (intro wq hwq;(obtain⟨hqc,hqf⟩:=hwq.ext.cells);have hqs:=hwq.ext.size;unfold Oper.quietAt;(try go_simp);first|rfl|(first
    | (go_at_call 19;exact CNE.out _)
    | (go_at_call 29;exact CRE.out _ (hx1.trans hwq.ext))
    | (go_at_call 105;exact CCE.out _ (hx1.trans hwq.ext))
    | (go_at_call 10;have hb:=hwq.blk 7 rfl rfl;exact CVE.out _ _ _ (hx1.trans hwq.ext) (VerS.one (hb.cell 0) (hb.cell 1) (hb.cell 2) (hb.cell 3)))
    | (go_at_call 58;first|with_reducible exact callsExt (CI1.out _)|with_reducible exact callsExt (CI2.out _)|with_reducible exact callsExt (CI3.out _))
    | (go_at_call 38;first|with_reducible exact callsExt (CW1.out _)|with_reducible exact callsExt (CW2.out _)|with_reducible exact callsExt (CW3.out _))
    | (go_at_call 11;have hb:=hwq.blk 35 rfl rfl;exact (CFI.out _ _ _ (by intro k hk;rw[hb.cell];match k,hk with|0,_=>rfl|1,_=>rfl|2,_=>rfl|3,_=>rfl|4,_=>rfl|5,_=>rfl)).mono fun e w' h=>⟨h.1,h.2 ▸ Ext.refl _⟩))));(try simp only[Act.put,List.setIfInBounds_toArray,List.set_cons_zero,List.set_cons_succ]))|(apply grow_build;(focus exact rfl);(focus (intro wq;go_simp;first|exact⟨⟨rfl,rfl⟩,rfl⟩|exact⟨rfl,rfl⟩|rfl));intro b;(try simp only[Act.put,List.setIfInBounds_toArray,List.set_cons_zero,List.set_cons_succ])))
   refine grow_nil ?_
   intro wN hxN hFN
   go_wp2
   go_ret
   exact⟨rfl,hx1.trans hxN⟩
  case true =>
   cases I2
   case false =>
    simp only[Bool.and_false,Bool.false_and,Bool.not_false] at CW2 CW3 CI1 CI2 CI3
    go_wp2
    refine wp_region_grow (by kernel_rfl) (by kernel_rfl) ?_
    apply Exists.intro
    repeat (first|(apply grow_skip;(focus exact rfl);(try simp only[Act.put,List.setIfInBounds_toArray,List.set_cons_zero,List.set_cons_succ]))|(apply grow_one;(focus exact rfl);(focus (intro wq hwq;(obtain⟨hqc,hqf⟩:=hwq.ext.cells);have hqs:=hwq.ext.size;unfold Oper.quietAt;(try go_simp);first|rfl|(first
     | (go_at_call 19;exact CNE.out _)
     | (go_at_call 29;exact CRE.out _ (hx1.trans hwq.ext))
     | (go_at_call 105;exact CCE.out _ (hx1.trans hwq.ext))
     | (go_at_call 10;have hb:=hwq.blk 7 rfl rfl;exact CVE.out _ _ _ (hx1.trans hwq.ext) (VerS.one (hb.cell 0) (hb.cell 1) (hb.cell 2) (hb.cell 3)))
     | (go_at_call 58;first|with_reducible exact callsExt (CI1.out _)|with_reducible exact callsExt (CI2.out _)|with_reducible exact callsExt (CI3.out _))
     | (go_at_call 38;first|with_reducible exact callsExt (CW1.out _)|with_reducible exact callsExt (CW2.out _)|with_reducible exact callsExt (CW3.out _))
     | (go_at_call 11;have hb:=hwq.blk 35 rfl rfl;exact (CFI.out _ _ _ (by intro k hk;rw[hb.cell];match k,hk with|0,_=>rfl|1,_=>rfl|2,_=>rfl|3,_=>rfl|4,_=>rfl|5,_=>rfl)).mono fun e w' h=>⟨h.1,h.2 ▸ Ext.refl _⟩))));(try simp only[Act.put,List.setIfInBounds_toArray,List.set_cons_zero,List.set_cons_succ]))|(apply grow_build;(focus exact rfl);(focus (intro wq;go_simp;first|exact⟨⟨rfl,rfl⟩,rfl⟩|exact⟨rfl,rfl⟩|rfl));intro b;(try simp only[Act.put,List.setIfInBounds_toArray,List.set_cons_zero,List.set_cons_succ])))
    refine grow_nil ?_
    intro wN hxN hFN
    go_wp2
    go_ret
    exact⟨rfl,hx1.trans hxN⟩
   case true =>
    simp only[Bool.true_and,Bool.and_true,Bool.not_false] at CW2 CW3 CI1 CI2 CI3
    go_wp2
    refine wp_region_grow (by kernel_rfl) (by kernel_rfl) ?_
    apply Exists.intro
    repeat (first|(apply grow_skip;(focus exact rfl);(try simp only[Act.put,List.setIfInBounds_toArray,List.set_cons_zero,List.set_cons_succ]))|(apply grow_one;(focus exact rfl);(focus (intro wq hwq;(obtain⟨hqc,hqf⟩:=hwq.ext.cells);have hqs:=hwq.ext.size;unfold Oper.quietAt;(try go_simp);first|rfl|(first
     | (go_at_call 19;exact CNE.out _)
     | (go_at_call 29;exact CRE.out _ (hx1.trans hwq.ext))
     | (go_at_call 105;exact CCE.out _ (hx1.trans hwq.ext))
     | (go_at_call 10;have hb:=hwq.blk 7 rfl rfl;exact CVE.out _ _ _ (hx1.trans hwq.ext) (VerS.one (hb.cell 0) (hb.cell 1) (hb.cell 2) (hb.cell 3)))
     | (go_at_call 58;first|with_reducible exact callsExt (CI1.out _)|with_reducible exact callsExt (CI2.out _)|with_reducible exact callsExt (CI3.out _))
     | (go_at_call 38;first|with_reducible exact callsExt (CW1.out _)|with_reducible exact callsExt (CW2.out _)|with_reducible exact callsExt (CW3.out _))
     | (go_at_call 11;have hb:=hwq.blk 35 rfl rfl;exact (CFI.out _ _ _ (by intro k hk;rw[hb.cell];match k,hk with|0,_=>rfl|1,_=>rfl|2,_=>rfl|3,_=>rfl|4,_=>rfl|5,_=>rfl)).mono fun e w' h=>⟨h.1,h.2 ▸ Ext.refl _⟩))));(try simp only[Act.put,List.setIfInBounds_toArray,List.set_cons_zero,List.set_cons_succ]))|(apply grow_build;(focus exact rfl);(focus (intro wq;go_simp;first|exact⟨⟨rfl,rfl⟩,rfl⟩|exact⟨rfl,rfl⟩|rfl));intro b;(try simp only[Act.put,List.setIfInBounds_toArray,List.set_cons_zero,List.set_cons_succ])))
    refine grow_nil ?_
    intro wN hxN hFN
    go_wp2
    go_ret
    exact⟨rfl,hx1.trans hxN⟩
end Go.Proofs.YtmnafaaijglnfaaGreatDoor
