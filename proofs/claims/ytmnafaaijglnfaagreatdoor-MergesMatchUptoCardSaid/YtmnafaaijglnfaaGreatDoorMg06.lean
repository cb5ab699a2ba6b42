/- Contract of ver.Parse. -/
import Derived.Test.YtmnafaaijglnfaaGreatDoorMg04
namespace Go.Proofs.YtmnafaaijglnfaaGreatDoor
open Go.RowKit
abbrev verVal' (a1 a2 a3:Int) (a:ByteArray):Value:=.agg #[.int .i64 a1,.int .i64 a2,.int .i64 a3,.string a]
def parseV (l:Str):(Int × Int × Int × Str) × Int :=
 match splitC 46 (cutC 45 l).1 with
 | [x,y,z] =>
   if ((cutC 45 l).2.2&&(cutC 45 l).2.1.isEmpty)=true then ((0,0,0,[]),8)
   else if (numOk x&&numOk y&&numOk z)=false then ((0,0,0,[]),8)
   else if checkV (numV x) (numV y) (numV z) (cutC 45 l).2.1=0 then ((numV x,numV y,numV z,(cutC 45 l).2.1),0)
   else ((0,0,0,[]),checkV (numV x) (numV y) (numV z) (cutC 45 l).2.1)
 | _=>((0,0,0,[]),8)
def ParsePost (l:Str) (w:World) (E:Ending) (w':World):Prop :=
 ∃ b:ByteArray,E=.returned (.tuple #[verVal' (parseV l).1.1 (parseV l).1.2.1 (parseV l).1.2.2.1 b,.int .i64 (parseV l).2])∧bs b=(parseV l).1.2.2.2∧b.size<=l.length∧Ext w w'
theorem post_parse0 {l:Str} {w w':World} {r:Int} (h:parseV l=((0,0,0,[]),r)) (hx:Ext w w'):ParsePost l w (.returned (.tuple #[verVal' 0 0 0 ⟨#[]⟩,.int .i64 r])) w' :=
 ⟨⟨#[]⟩,by rw[h],by rw[h],Nat.zero_le _,hx⟩
theorem parse_count {l:Str} (h:(splitC 46 (cutC 45 l).1).length≠3):parseV l=((0,0,0,[]),8):=by
 unfold parseV
 split
 ·rename_i x y z e;exact absurd (by rw[e];rfl) h
 ·rfl
theorem parse_tail {l:Str} {x y z:Str} (h:splitC 46 (cutC 45 l).1=[x,y,z]) (h2:((cutC 45 l).2.2&&(cutC 45 l).2.1.isEmpty)=true):parseV l=((0,0,0,[]),8):=by
 unfold parseV
 rw[h]
 simp only
 rw[if_pos h2]
theorem parse_num {l:Str} {x y z:Str} (h:splitC 46 (cutC 45 l).1=[x,y,z]) (h2:((cutC 45 l).2.2&&(cutC 45 l).2.1.isEmpty)=false) (h3:(numOk x&&numOk y&&numOk z)=false):parseV l=((0,0,0,[]),8):=by
 unfold parseV
 rw[h]
 simp only
 rw[if_neg (by rw[h2];decide),if_pos h3]
theorem parse_ok {l:Str} {x y z:Str} (h:splitC 46 (cutC 45 l).1=[x,y,z]) (h2:((cutC 45 l).2.2&&(cutC 45 l).2.1.isEmpty)=false) (h3:numOk x=true) (h4:numOk y=true) (h5:numOk z=true) :
 parseV l=if checkV (numV x) (numV y) (numV z) (cutC 45 l).2.1=0 then ((numV x,numV y,numV z,(cutC 45 l).2.1),0) else ((0,0,0,[]),checkV (numV x) (numV y) (numV z) (cutC 45 l).2.1):=by
 unfold parseV
 rw[h]
 simp only
 rw[if_neg (by rw[h2];decide),if_neg (by rw[h3,h4,h5];decide)]
theorem post_parse1 {l:Str} {w w':World} {a1 a2 a3:Int} {b:ByteArray} (h:parseV l=((a1,a2,a3,bs b),0)) (hb:b.size<=l.length) (hx:Ext w w'):ParsePost l w (.returned (.tuple #[verVal' a1 a2 a3 b,.int .i64 0])) w' :=
 ⟨b,by rw[h],by rw[h],hb,hx⟩
theorem three {xs:List ByteArray} (h:xs.length=3):∃ x y z,xs=[x,y,z]:=by
 match xs,h with
 | [x,y,z],_=>exact⟨x,y,z,rfl⟩
set_option maxHeartbeats 2000000 in
theorem Parse_any (s:ByteArray) (w:World) (hg:GoodN w) (hs:s.size<=2097152) :
 Calls Tryz.prog 26 #[.string s] w (ParsePost (bs s) w):=by
 go_enter Tryz.func26,Tryz.ntmps26
 go_wp2_with fail
 refine (cut_ex 45 s _ (hg.toGood.ext Ext.au) hs).mono ?_
 rintro e w1 ⟨nb,eb,fl,rfl,hcut,hsn,hse,hx1⟩
 have HCUT:=Hy hcut
 clear hcut
 go_wp2_with fail
 refine (split_any 46 nb _ ((hg.toGood.ext Ext.au).ext hx1) (by omega)).mono ?_
 rintro e w2 ⟨b,xs,rfl,hb0,hst,hxs,hx2⟩
 have hxx:Ext w w2:=(Ext.trans Ext.au hx1).trans hx2
 have hR:=((Blk.new w 23 #[.int .i64 0,.int .i64 0,.int .i64 0,.string ⟨#[]⟩]).ext hx1).ext hx2
 have rc:=hR.cell
 have rf:=hR.free
 have rl:=hR.lt
 by_cases h3:xs.length=3
 ·obtain⟨x,y,z,rfl⟩:=three h3
  have hsp:splitC 46 (cutC 45 (bs s)).1=[bs x,bs y,bs z]:=by rw[HCUT.out,<-hxs];rfl
  have HSP:=Hy hsp
  have c0:w2.cell? ⟨b,0,none⟩=some (.string x):=hst.cell 0 (by simp)
  have c1:w2.cell? ⟨b,1,none⟩=some (.string y):=hst.cell 1 (by simp)
  have c2:w2.cell? ⟨b,2,none⟩=some (.string z):=hst.cell 2 (by simp)
  have sx:x.size<=nb.size:=piece_le hxs (k:=0) (by simp)
  have sy:y.size<=nb.size:=piece_le hxs (k:=1) (by simp)
  have sz:z.size<=nb.size:=piece_le hxs (k:=2) (by simp)
  have hbl:=hst.lt
  clear h3 hxs hst hsp
  have htail:(cutC 45 (bs s)).2.2=fl∧(cutC 45 (bs s)).2.1=bs eb:=by rw[HCUT.out];exact⟨rfl,rfl⟩
  have HT:=Hy htail
  clear htail
  by_cases ht:fl=true∧eb.size=0
  ·obtain⟨rfl,he0⟩:=ht
   have hi:=emp_bool he0
   have hp:parseV (bs s)=((0,0,0,[]),8):=parse_tail HSP.out (by rw[HT.out.1,HT.out.2,bs_nil he0];rfl)
   have HP:=Hy hp
   clear hp
   go_wp2
   refine bodyPost_ret (v:=.tuple #[verVal' 0 0 0 ⟨#[]⟩,.int .i64 8]) (by simp[results,Tryz.results26,go_sem,rc]) rfl (post_parse0 HP.out ?_)
   exact Ext.ad
  have hT2:((cutC 45 (bs s)).2.2&&(cutC 45 (bs s)).2.1.isEmpty)=false:=by
   rw[HT.out.1,HT.out.2]
   cases fl
   ·rfl
   ·rcases Nat.eq_zero_or_pos eb.size with h0|h0
    ·exact absurd ⟨rfl,h0⟩ ht
    ·have:=nemp_bool h0
     rw[ByteArray.toList_eq] at this
     rw[this];rfl
  have HT2:=Hy hT2
  clear hT2
  have hq:fl=false∨(fl=true∧0 < eb.size):=by
   cases fl
   ·exact .inl rfl
   ·exact .inr ⟨rfl,Nat.pos_of_ne_zero fun h0=>ht ⟨rfl,h0⟩⟩
  clear ht
  rcases hq with rfl|⟨rfl,hq0⟩
  rotate_left
  ·have hi:=nemp_bool hq0
   go_wp2
   go_loopw [36] (fun i wr=>((i=.int .i64 0∧Blk wr w2.heap.size 115 #[.int .i64 0,.int .i64 0,.int .i64 0])∨(i=.int .i64 1∧numOk (bs x)=true∧Blk wr w2.heap.size 115 #[.int .i64 (numV (bs x)),.int .i64 0,.int .i64 0])∨(i=.int .i64 2∧numOk (bs x)=true∧numOk (bs y)=true∧Blk wr w2.heap.size 115 #[.int .i64 (numV (bs x)),.int .i64 (numV (bs y)),.int .i64 0])∨(i=.int .i64 3∧numOk (bs x)=true∧numOk (bs y)=true∧numOk (bs z)=true∧Blk wr w2.heap.size 115 #[.int .i64 (numV (bs x)),.int .i64 (numV (bs y)),.int .i64 (numV (bs z))]))∧Ext w2 wr) (fun i _=>3 - (intOf i).toNat)
   case atStart=>exact⟨.inl ⟨rfl,Blk.new w2 _ _⟩,(Ext.refl w2).alloc _⟩
   case round =>
    obtain⟨hi,hxr⟩:=hrel
    have rr:=hR.ext hxr
    have d0:=hxr.cell c0
    have d1:=hxr.cell c1
    have d2:=hxr.cell c2
    have gr:=((hg.ext Ext.au).ext hx1).ext (hx2.trans hxr)
    clear rc rf rl c0 c1 c2
    rcases hi with ⟨rfl,hA⟩|⟨rfl,o0,hA⟩|⟨rfl,o0,o1,hA⟩|⟨rfl,o0,o1,o2,hA⟩
    ·skip
     go_wp2_with fail
     refine (number_any x _ gr (by omega)).mono ?_
     rintro e w3 ⟨rfl,hx3⟩
     have hA3:=hA.ext hx3
     have ac:=hA3.cell
     have af:=hA3.free
     have rr3:=rr.ext hx3
     have rc:=rr3.cell
     have rf:=rr3.free
     cases hk:numOk (bs x)
     ·have HP:=Hy (parse_num HSP.out HT2.out (by rw[hk];simp))
      clear hk ac af
      go_wp2
      refine bodyPost_ret (v:=.tuple #[verVal' 0 0 0 ⟨#[]⟩,.int .i64 8]) (by simp[results,Tryz.results26,go_sem,rc]) rfl (post_parse0 HP.out ?_)
      have hx4:Ext w w3:=(hxx.trans hxr).trans hx3
      exact Ext.ad
     ·have OK:=Hy hk
      clear hk rc rf
      go_wp2
      go_roundw
      case rel=>exact⟨.inr (.inl ⟨rfl,OK.out,hA3.set 0 _⟩),Ext.setCell (hxr.trans hx3) (Nat.le_refl _) _⟩
      case measure=>decide
    ·have O0:=Hy o0;clear o0
     go_wp2_with fail
     refine (number_any y _ gr (by omega)).mono ?_
     rintro e w3 ⟨rfl,hx3⟩
     have hA3:=hA.ext hx3
     have ac:=hA3.cell
     have af:=hA3.free
     have rr3:=rr.ext hx3
     have rc:=rr3.cell
     have rf:=rr3.free
     cases hk:numOk (bs y)
     ·have HP:=Hy (parse_num HSP.out HT2.out (by rw[hk,O0.out];simp))
      clear hk ac af
      go_wp2
      refine bodyPost_ret (v:=.tuple #[verVal' 0 0 0 ⟨#[]⟩,.int .i64 8]) (by simp[results,Tryz.results26,go_sem,rc]) rfl (post_parse0 HP.out ?_)
      have hx4:Ext w w3:=(hxx.trans hxr).trans hx3
      exact Ext.ad
     ·have OK:=Hy hk
      clear hk rc rf
      go_wp2
      go_roundw
      case rel=>exact⟨.inr (.inr (.inl ⟨rfl,O0.out,OK.out,hA3.set 1 _⟩)),Ext.setCell (hxr.trans hx3) (Nat.le_refl _) _⟩
      case measure=>decide
    ·have O0:=Hy o0;have O1:=Hy o1;clear o0 o1
     go_wp2_with fail
     refine (number_any z _ gr (by omega)).mono ?_
     rintro e w3 ⟨rfl,hx3⟩
     have hA3:=hA.ext hx3
     have ac:=hA3.cell
     have af:=hA3.free
     have rr3:=rr.ext hx3
     have rc:=rr3.cell
     have rf:=rr3.free
     cases hk:numOk (bs z)
     ·have HP:=Hy (parse_num HSP.out HT2.out (by rw[hk,O0.out,O1.out];simp))
      clear hk ac af
      go_wp2
      refine bodyPost_ret (v:=.tuple #[verVal' 0 0 0 ⟨#[]⟩,.int .i64 8]) (by simp[results,Tryz.results26,go_sem,rc]) rfl (post_parse0 HP.out ?_)
      have hx4:Ext w w3:=(hxx.trans hxr).trans hx3
      exact Ext.ad
     ·have OK:=Hy hk
      clear hk rc rf
      go_wp2
      go_roundw
      case rel=>exact⟨.inr (.inr (.inr (⟨rfl,O0.out,O1.out,OK.out,hA3.set 2 _⟩))),Ext.setCell (hxr.trans hx3) (Nat.le_refl _) _⟩
      case measure=>decide
    ·have O0:=Hy o0;have O1:=Hy o1;have O2:=Hy o2;clear o0 o1 o2
     have ac:=hA.cell
     have rc:=rr.cell
     have rf:=rr.free
     have rl:=rr.lt
     have hp:=parse_ok HSP.out HT2.out O0.out O1.out O2.out
     rw[HT.out.2] at hp
     have HP:=Hy hp
     clear hp
     go_wp2_with fail
     refine (Check_any _ _ _ eb _ (gr.toGood.ext Ext.au) (by omega)).mono ?_
     rintro e w3 ⟨rfl,hx3⟩
     have hx4:Ext w w3:=Ext.trans (Ext.trans (hxx.trans hxr) Ext.au) hx3
     have rr3:=(rr.alloc _).ext hx3
     have rc3:=rr3.cell
     have rf3:=rr3.free
     obtain⟨hc3,hf3⟩:=hx3.cells
     clear ac rc rf
     have vb:=(Blk.new wr 23 #[.int .i64 (numV (bs x)),.int .i64 (numV (bs y)),.int .i64 (numV (bs z)),.string eb]).ext hx3
     have vc:=vb.cell
     by_cases h5:checkV (numV (bs x)) (numV (bs y)) (numV (bs z)) (bs eb)=0
     ·have H5:=Hy h5
      rw[h5]
      clear h5
      go_wp2
      refine bodyPost_ret (v:=.tuple #[verVal' (numV (bs x)) (numV (bs y)) (numV (bs z)) eb,.int .i64 0]) (by simp[results,Tryz.results26,go_sem,rc3]) rfl (post_parse1 (by rw[HP.out,if_pos H5.out]) (by rw[bs_length];exact hse) ?_)
      exact Ext.ad
     ·have H5:=Hy h5
      go_wp2
      refine bodyPost_ret (v:=.tuple #[verVal' 0 0 0 ⟨#[]⟩,.int .i64 (checkV (numV (bs x)) (numV (bs y)) (numV (bs z)) (bs eb))]) (by simp[results,Tryz.results26,go_sem,rc3]) rfl (post_parse0 (by rw[HP.out,if_neg H5.out]) ?_)
      exact Ext.ad
  ·go_wp2
   go_loopw [36] (fun i wr=>((i=.int .i64 0∧Blk wr w2.heap.size 115 #[.int .i64 0,.int .i64 0,.int .i64 0])∨(i=.int .i64 1∧numOk (bs x)=true∧Blk wr w2.heap.size 115 #[.int .i64 (numV (bs x)),.int .i64 0,.int .i64 0])∨(i=.int .i64 2∧numOk (bs x)=true∧numOk (bs y)=true∧Blk wr w2.heap.size 115 #[.int .i64 (numV (bs x)),.int .i64 (numV (bs y)),.int .i64 0])∨(i=.int .i64 3∧numOk (bs x)=true∧numOk (bs y)=true∧numOk (bs z)=true∧Blk wr w2.heap.size 115 #[.int .i64 (numV (bs x)),.int .i64 (numV (bs y)),.int .i64 (numV (bs z))]))∧Ext w2 wr) (fun i _=>3 - (intOf i).toNat)
   case atStart=>exact⟨.inl ⟨rfl,Blk.new w2 _ _⟩,(Ext.refl w2).alloc _⟩
   case round =>
    obtain⟨hi,hxr⟩:=hrel
    have rr:=hR.ext hxr
    have d0:=hxr.cell c0
    have d1:=hxr.cell c1
    have d2:=hxr.cell c2
    have gr:=((hg.ext Ext.au).ext hx1).ext (hx2.trans hxr)
    clear rc rf rl c0 c1 c2
    rcases hi with ⟨rfl,hA⟩|⟨rfl,o0,hA⟩|⟨rfl,o0,o1,hA⟩|⟨rfl,o0,o1,o2,hA⟩
    ·skip
     go_wp2_with fail
     refine (number_any x _ gr (by omega)).mono ?_
     rintro e w3 ⟨rfl,hx3⟩
     have hA3:=hA.ext hx3
     have ac:=hA3.cell
     have af:=hA3.free
     have rr3:=rr.ext hx3
     have rc:=rr3.cell
     have rf:=rr3.free
     cases hk:numOk (bs x)
     ·have HP:=Hy (parse_num HSP.out HT2.out (by rw[hk];simp))
      clear hk ac af
      go_wp2
      refine bodyPost_ret (v:=.tuple #[verVal' 0 0 0 ⟨#[]⟩,.int .i64 8]) (by simp[results,Tryz.results26,go_sem,rc]) rfl (post_parse0 HP.out ?_)
      have hx4:Ext w w3:=(hxx.trans hxr).trans hx3
      exact Ext.ad
     ·have OK:=Hy hk
      clear hk rc rf
      go_wp2
      go_roundw
      case rel=>exact⟨.inr (.inl ⟨rfl,OK.out,hA3.set 0 _⟩),Ext.setCell (hxr.trans hx3) (Nat.le_refl _) _⟩
      case measure=>decide
    ·have O0:=Hy o0;clear o0
     go_wp2_with fail
     refine (number_any y _ gr (by omega)).mono ?_
     rintro e w3 ⟨rfl,hx3⟩
     have hA3:=hA.ext hx3
     have ac:=hA3.cell
     have af:=hA3.free
     have rr3:=rr.ext hx3
     have rc:=rr3.cell
     have rf:=rr3.free
     cases hk:numOk (bs y)
     ·have HP:=Hy (parse_num HSP.out HT2.out (by rw[hk,O0.out];simp))
      clear hk ac af
      go_wp2
      refine bodyPost_ret (v:=.tuple #[verVal' 0 0 0 ⟨#[]⟩,.int .i64 8]) (by simp[results,Tryz.results26,go_sem,rc]) rfl (post_parse0 HP.out ?_)
      have hx4:Ext w w3:=(hxx.trans hxr).trans hx3
      exact Ext.ad
     ·have OK:=Hy hk
      clear hk rc rf
      go_wp2
      go_roundw
      case rel=>exact⟨.inr (.inr (.inl ⟨rfl,O0.out,OK.out,hA3.set 1 _⟩)),Ext.setCell (hxr.trans hx3) (Nat.le_refl _) _⟩
      case measure=>decide
    ·have O0:=Hy o0;have O1:=Hy o1;clear o0 o1
     go_wp2_with fail
     refine (number_any z _ gr (by omega)).mono ?_
     rintro e w3 ⟨rfl,hx3⟩
     have hA3:=hA.ext hx3
     have ac:=hA3.cell
     have af:=hA3.free
     have rr3:=rr.ext hx3
     have rc:=rr3.cell
     have rf:=rr3.free
     cases hk:numOk (bs z)
     ·have HP:=Hy (parse_num HSP.out HT2.out (by rw[hk,O0.out,O1.out];simp))
      clear hk ac af
      go_wp2
      refine bodyPost_ret (v:=.tuple #[verVal' 0 0 0 ⟨#[]⟩,.int .i64 8]) (by simp[results,Tryz.results26,go_sem,rc]) rfl (post_parse0 HP.out ?_)
      have hx4:Ext w w3:=(hxx.trans hxr).trans hx3
      exact Ext.ad
     ·have OK:=Hy hk
      clear hk rc rf
      go_wp2
      go_roundw
      case rel=>exact⟨.inr (.inr (.inr (⟨rfl,O0.out,O1.out,OK.out,hA3.set 2 _⟩))),Ext.setCell (hxr.trans hx3) (Nat.le_refl _) _⟩
      case measure=>decide
    ·have O0:=Hy o0;have O1:=Hy o1;have O2:=Hy o2;clear o0 o1 o2
     have ac:=hA.cell
     have rc:=rr.cell
     have rf:=rr.free
     have rl:=rr.lt
     have hp:=parse_ok HSP.out HT2.out O0.out O1.out O2.out
     rw[HT.out.2] at hp
     have HP:=Hy hp
     clear hp
     go_wp2_with fail
     refine (Check_any _ _ _ eb _ (gr.toGood.ext Ext.au) (by omega)).mono ?_
     rintro e w3 ⟨rfl,hx3⟩
     have hx4:Ext w w3:=Ext.trans (Ext.trans (hxx.trans hxr) Ext.au) hx3
     have rr3:=(rr.alloc _).ext hx3
     have rc3:=rr3.cell
     have rf3:=rr3.free
     obtain⟨hc3,hf3⟩:=hx3.cells
     clear ac rc rf
     have vb:=(Blk.new wr 23 #[.int .i64 (numV (bs x)),.int .i64 (numV (bs y)),.int .i64 (numV (bs z)),.string eb]).ext hx3
     have vc:=vb.cell
     by_cases h5:checkV (numV (bs x)) (numV (bs y)) (numV (bs z)) (bs eb)=0
     ·have H5:=Hy h5
      rw[h5]
      clear h5
      go_wp2
      refine bodyPost_ret (v:=.tuple #[verVal' (numV (bs x)) (numV (bs y)) (numV (bs z)) eb,.int .i64 0]) (by simp[results,Tryz.results26,go_sem,rc3]) rfl (post_parse1 (by rw[HP.out,if_pos H5.out]) (by rw[bs_length];exact hse) ?_)
      exact Ext.ad
     ·have H5:=Hy h5
      go_wp2
      refine bodyPost_ret (v:=.tuple #[verVal' 0 0 0 ⟨#[]⟩,.int .i64 (checkV (numV (bs x)) (numV (bs y)) (numV (bs z)) (bs eb))]) (by simp[results,Tryz.results26,go_sem,rc3]) rfl (post_parse0 (by rw[HP.out,if_neg H5.out]) ?_)
      exact Ext.ad
 ·have b3:((xs.length:Int) != 3)=true:=by rw[bne_iff_ne];omega
  have hp:parseV (bs s)=((0,0,0,[]),8):=parse_count (by rw[HCUT.out,<-hxs,List.length_map];exact h3)
  have HP:=Hy hp
  clear hp h3 hxs hst
  go_wp2
  refine bodyPost_ret (v:=.tuple #[verVal' 0 0 0 ⟨#[]⟩,.int .i64 8]) (by simp[results,Tryz.results26,go_sem,rc]) rfl (post_parse0 HP.out ?_)
  exact Ext.ad
end Go.Proofs.YtmnafaaijglnfaaGreatDoor
